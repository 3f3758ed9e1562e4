/-
  Part 17 of the proof: contracts and plain laws. Conditions: none.
-/
import Derived.Test.YtagmkfbbhfaceaaGreatDoorBK16
namespace Go.Proofs.YtagmkfbbhfaceaaGreatDoor
open Go Go.RowKit Go.Proofs.Tryz
set_option maxRecDepth 10000

theorem Acc.blkT {α : Type} {enc : α → List Value} {k : Nat} {e : TypeId} {base : Nat} {w : World} {ao : Option Addr} {g cap : Nat} {xs : List α} (h : Acc enc k e base w ao g cap xs) (hb : base ≤ g) : ∃ cs, Blk w g e cs := by
  rcases h.at_ with ⟨_, _, _, h1⟩ | ⟨_, _, cur, h1, _⟩
  · omega
  · exact ⟨cur.toList, by simpa [Blk] using h1⟩
theorem Acc.neBlk {α : Type} {enc : α → List Value} {k : Nat} {e t : TypeId} {base b : Nat} {w : World} {ao : Option Addr} {g cap : Nat} {xs : List α} {cs : List Value} (h : Acc enc k e base w ao g cap xs) (hB : Blk w b t cs) (ht : e ≠ t) : base ≤ g → g ≠ b := fun hb q => by
  subst q
  rcases h.at_ with ⟨_, _, _, h1⟩ | ⟨_, _, cur, h1, _⟩
  · omega
  · unfold Blk at hB; rw [h1] at hB; injection hB with hB; injection hB with _ hB; exact ht hB
/-- A copy of a clue's options. -/
structure OptC (base : Nat) (w : World) (h : HC) : Prop where
  hx : ∃ b, base ≤ b ∧ Acc encOpt 6 44 b w h.ao h.b h.cap h.xs
  ho : h.o = 0
theorem OptC.sl {base : Nat} {w : World} {h : HC} (m : OptC base w h) : Sl encOpt 6 w h.ao h.b h.o h.xs := by
  obtain ⟨b, _, h1⟩ := m.hx
  rw [m.ho]; exact h1.sl (fun _ => rfl)
theorem OptC.upd {base : Nat} {w w' : World} {S : Nat → Prop} {h : HC} (m : OptC base w h) (u : Upd S w w') (h1 : base ≤ h.b → ∀ cs, Blk w h.b 44 cs → ¬ S h.b) : OptC base w' h := by
  obtain ⟨b, hb, a⟩ := m.hx
  exact ⟨⟨b, hb, a.keep u fun q => by obtain ⟨cs, hB⟩ := a.blkT q; exact h1 (by omega) cs hB⟩, m.ho⟩
theorem OptC.ext {base : Nat} {w w' : World} {h : HC} (m : OptC base w h) (u : Ext w w') : OptC base w' h := m.upd u (fun _ _ _ q => q)
theorem OptC.low {base base' : Nat} {w : World} {h : HC} (m : OptC base w h) (hb : base' ≤ base) : OptC base' w h := by
  obtain ⟨b, hb1, a⟩ := m.hx
  exact ⟨⟨b, by omega, a⟩, m.ho⟩
theorem Acc.notBlk {α : Type} {enc : α → List Value} {k : Nat} {e t : TypeId} {base b : Nat} {w : World} {ao : Option Addr} {g cap : Nat} {xs : List α} {cs : List Value} (h : Acc enc k e base w ao g cap xs) (hB : Blk w b t cs) (ht : e ≠ t) : ¬ (b = g ∧ base ≤ b) := fun q => by
  obtain ⟨q1, q2⟩ := q
  exact h.neBlk hB ht (q1 ▸ q2) q1.symm
theorem osR_xs {zz : Nat} {a b : List HC} (h : a.map HC.xs = b.map HC.xs) : osR zz a = osR zz b := by
  have e : ∀ l : List HC, osR zz l = (l.map HC.xs).map fun x => nth x zz := fun l => by unfold osR; rw [List.map_map]; rfl
  rw [e, e, h]
theorem CaM.cpy {w w' : World} {zz n : Nat} {cs : List Bcl} {ac : Option Addr} {bc oc : Nat} {rows : List HC} {ar : Option Addr} {br or_ : Nat} (h : CaM w zz n cs ac bc oc rows ar br or_) {ac' : Option Addr} {g1 : Nat} {out : List HC} {ar' : Option Addr} {g2 base : Nat} (h1 : Sl encBcl 2 w' ac' g1 0 cs) (h2 : Sl encHC 1 w' ar' g2 0 out) (hm : out.map HC.xs = rows.map HC.xs) (hs : ∀ x ∈ out, OptC base w' x) : CaM w' zz n cs ac' g1 0 out ar' g2 0 := by
  have hl : out.length = rows.length := by have := congrArg List.length hm; simpa using this
  have hf : ∀ x ∈ out, ∃ y ∈ rows, x.xs = y.xs := fun x hx => by
    have h9 : x.xs ∈ rows.map HC.xs := by rw [← hm]; exact List.mem_map.2 ⟨x, hx, rfl⟩
    obtain ⟨y, hy, e⟩ := List.mem_map.1 h9
    exact ⟨y, hy, e.symm⟩
  refine ⟨h1, h2, fun x hx => ⟨(hs x hx).sl, ?_⟩, h.hn, h.hc, by rw [hl]; exact h.hr, h.hb, fun x hx => ?_⟩
  · obtain ⟨y, hy, e⟩ := hf x hx
    rw [e]; exact (h.m y hy).2
  · obtain ⟨y, hy, e⟩ := hf x hx
    rw [e]; exact h.ho y hy
set_option maxHeartbeats 4000000 in
theorem haulCase_c (zz n : Nat) (cs : List Bcl) (ac : Option Addr) (bc oc cc : Nat) (rows : List HC) (ar : Option Addr) (br or_ cr : Nat) (w0 : World) (hc : CaM w0 zz n cs ac bc oc rows ar br or_) (hpos : 0 < w0.heap.size) :
    CallsV Tryz.prog 13 [.agg #[.int .i64 (n : Int), .slice ac cs.length cc, .slice ar rows.length cr]] w0 (fun v w' => (∃ a1 g1 c1 a2 g2 c2 out, v = .agg #[.int .i64 (n : Int), .slice a1 (List.length cs) c1, .slice a2 (List.length out) c2] ∧ Acc encBcl 2 34 w0.heap.size w' a1 g1 c1 cs ∧ Acc encHC 1 47 w0.heap.size w' a2 g2 c2 out ∧ out.map HC.xs = rows.map HC.xs ∧ ∀ h ∈ out, OptC w0.heap.size w' h) ∧ Ext w0 w') := by
 have hC := hc.c
 have hR := hc.r
 have hM := hc.m
 have hn1 := hc.hn
 have hcl := hc.hc
 have hrl := hc.hr
 have hcb := hc.hb
 have hob := hc.ho
 refine f_n func13 ?_
 refine go ?_
 refine x_b fun bk2 w3 ebk2 sbk2 B4 u5 => ?_
 refine x_n fun bk7 w8 ebk7 sbk7 B9 u10 => ?_
 refine go ?_
 refine c_drawnM follows (fun _ => False) (.look 0 (.look 1 (.look 3 (.look 4 (.act 2 (.act 5 (.look 6 (.act 7 (.act 8 .done .stop) .stop)) (.act 7 (.act 5 (.look 6 (.act 8 .done .stop)) .stop) .stop)) (.act 7 (.act 2 (.act 5 (.look 6 (.act 8 .done .stop)) .stop) .stop) .stop)))))) (by kernel_rfl) fun w13 u14 => ?_
 have zu14 := u14.size
 have E15 := Sc.mk ((((Upd.refl (fun _ => False) w0).nx u5).nx u10).nx u14)
 refine go ?_
 refine s_or ?_ ?_
 ·
  refine go ?_
  refine x_l fun bk16 w17 ebk16 sbk16 B18 u19 => ?_
  have E20 := Sc.mk (E15.u.nx u19)
  refine go ?_
  refine s_or ?_ ?_
  ·
   refine go ?_
   refine t_copy (enc := encBcl) (z := .agg #[.int .i64 0, .int .i64 0]) (bytes := 16) (k := 2) (ys := cs) underlying35 (by kernel_rfl) rfl (by decide) (fun _ => rfl) (by intro x; simp [encBcl, Value.oneCell']) rfl rfl rfl rfl B18 (hC.keep E20.u (fun _ h => h)) (by omega) (by decide) (fun ao21 gb22 cp23 w24 A25 u26 gegb22 => ?_)
   have zu26 := u26.size
   have B28 := ((((B4.kx u10).kx u14).kx u19).keep u26 (by omega))
   have ne_gb22_bk2 := A25.neBlk B28 (by decide) gegb22
   have B29 := (((B9.kx u14).kx u19).keep u26 (by omega))
   have ne_gb22_bk7 := A25.neBlk B29 (by decide) gegb22
   have lt_gb22 := A25.lt
   refine go ?_
   refine x_n fun bk30 w31 ebk30 sbk30 B32 u33 => ?_
   refine go ?_
   refine x_s fun w35 sw35 B37 u36 => ?_
   refine go ?_
   refine x_l5 (fun i => i = bk30 ∨ w35.heap.size ≤ i) [1, 2, 3] (fun (k : Nat) (ao : Option Addr) (gx : Nat) (co : Nat) (out : List HC) => [(4, .int .i64 (k : Int))]) (fun k ao gx co out w => Blk w bk30 38 [.int .i64 (n : Int), .slice ao21 cs.length cp23, .slice ao out.length co] ∧ (k ≤ rows.length) ∧ (Acc encHC 1 47 w35.heap.size w ao gx co out) ∧ (out.map HC.xs = (rows.take k).map HC.xs) ∧ (∀ h ∈ out, OptC w35.heap.size w h)) (fun k ao gx co out => rows.length - k) 0 none 0 0 ([]) ⟨B37, (Nat.zero_le _), (Acc.nil encHC 1 47 w35.heap.size _ (by omega) (Nat.le_refl _)), rfl, (fun h hh => by cases hh)⟩ ?_
   rintro k ao gx co out w42 ⟨I44, hk, hout, hom, hoc⟩ u43 zu43 K41 hK41
   have lt_gx := hout.lt
   have hol : out.length = k := by have := congrArg List.length hom; simpa [List.length_take, Nat.min_eq_left hk] using this
   have hout0 := hout
   refine go ?_
   refine q_p (fun g16 => ?_) fun g16 => ?_
   ·
    have hM1 := hM (nth rows k) (nth_mem (by omega))
    have hxl1 := hM1.2
    have hbr9 := hR.lt (by omega)
    refine go ?_
    refine c_drawnM follows (fun i => (i = gx ∧ w35.heap.size ≤ i) ∨ i = bk30) (.look 0 (.look 3 (.look 4 (.look 5 (.look 6 (.look 7 (.look 8 (.act 1 (.act 2 (.act 9 (.look 10 (.act 11 (.act 12 (.look 13 (.act 14 .done .stop)) .stop) .stop)) .stop) .stop) (.act 2 (.act 1 (.act 9 (.look 10 (.act 11 (.act 12 (.look 13 (.act 14 .done .stop)) .stop) .stop)) .stop) (.act 9 (.look 10 (.act 1 (.act 11 (.act 12 (.look 13 (.act 14 .done .stop)) .stop) .stop) (.act 11 (.act 1 (.act 12 (.look 13 (.act 14 .done .stop)) .stop) .stop) .stop))) .stop)) .stop))))))))) (by kernel_rfl) fun w49 u50 => ?_
    have zu50 := u50.size
    have E51 := Sc.mk (((((E20.u.next u26 (fun i hi h => by omega)).nx u33).next u36 (fun i hi h => by omega)).next u43 (fun i hi (h : i = bk30 ∨ w35.heap.size ≤ i) => show False by first | omega | assumption)).nx u50)
    refine go ?_
    refine y_i k (hR.keep E51.u (fun _ h => h)) (fun _ => ?_)
    refine go ?_
    refine s_or ?_ ?_
    ·
     refine go ?_
     refine x_l fun bk53 w54 ebk53 sbk53 B55 u56 => ?_
     refine go ?_
     refine t_copy (enc := encOpt) (z := .agg #[.int .i64 0, .int .i64 0, .int .i64 0, .int .i64 0, .int .i64 0, .int .i64 0]) (bytes := 48) (k := 6) (ys := (nth rows k).xs) underlying45 (by kernel_rfl) rfl (by decide) (fun _ => rfl) (by intro x; simp [encOpt, Value.oneCell']) rfl rfl rfl rfl B55 ((hM (nth rows k) (nth_mem (by omega))).1.keep (E51.u.nx u56) (fun _ h => h)) (by omega) (by decide) (fun ao58 gb59 cp60 w61 A62 u63 gegb59 => ?_)
     have zu63 := u63.size
     have lt_gb59 := A62.lt
     refine go ?_
     refine x_l fun bk65 w66 ebk65 sbk65 B67 u68 => ?_
     refine go ?_
     have D70 := ((((hout.keep u50 (fun _ h => h)).keep u56 (fun _ h => h)).keep u63 (fun hb => show ¬ ((gx = bk53 ∧ bk53 ≤ gx)) by first | omega | assumption)).keep u68 (fun _ h => h))
     refine t_append (z := .agg #[.slice none 0 0]) (bytes := 24) (k := 1) (base := w35.heap.size) (⟨(nth rows k).xs, ao58, gb59, 0, cp60⟩ : HC) underlying36 (by kernel_rfl) rfl (by decide) (fun _ => rfl) (by intro x; simp [encHC, Value.oneCell']) rfl rfl rfl rfl D70 B67 (by omega) (by omega) (by decide) (fun ao71 gb72 cp73 w74 A75 u76 gegb72 lngb72 => ?_)
     have zu76 := u76.size
     have lt_gb72 := A75.lt
     refine go ?_
     refine x_s fun w78 sw78 B80 u79 => ?_
     refine go ?_
     have D82 := (A75.keep u79 (fun hb => show ¬ (gb72 = bk30) by first | omega | assumption))
     have D83 := (((A62.keep u68 (fun _ h => h)).keep u76 (fun hb => show ¬ ((gb59 = gx ∧ w35.heap.size ≤ gb59)) by first | omega | assumption)).keep u79 (fun hb => show ¬ (gb59 = bk30) by first | omega | assumption))
     have uR := (((((((Upd.refl (fun i => (i = gx ∧ w35.heap.size ≤ i) ∨ i = bk30) w42).nx u50).nx u56).next u63 (fun i hi (h : (i = bk53 ∧ bk53 ≤ i)) => show (i = gx ∧ w35.heap.size ≤ i) ∨ i = bk30 by omega)).nx u68).next u76 (fun i hi (h : (i = gx ∧ w35.heap.size ≤ i)) => show (i = gx ∧ w35.heap.size ≤ i) ∨ i = bk30 by omega)).next u79 (fun i hi (h : i = bk30) => show (i = gx ∧ w35.heap.size ≤ i) ∨ i = bk30 by omega))
     have hpA := D83
     exact hK41 (k + 1) ao71 gb72 cp73 (out ++ [(⟨(nth rows k).xs, ao58, gb59, 0, cp60⟩ : HC)]) ⟨B80, (by omega), D82, (by rw [List.map_append, hom, take_nth (by omega), List.map_append]; rfl), (fun h hh => by
       rcases List.mem_append.1 hh with q | q
       · exact (hoc h q).upd uR (fun hb cs hB h9 => h9.elim (hout0.notBlk hB (by decide)) (fun e9 => by omega))
       · rw [List.mem_singleton.1 q]; exact ⟨⟨_, by omega, hpA⟩, rfl⟩)⟩ (hu := ((((((u43.nx u50).nx u56).next u63 (fun i hi (h : (i = bk53 ∧ bk53 ≤ i)) => show i = bk30 ∨ w35.heap.size ≤ i by first | omega | assumption)).nx u68).next u76 (fun i hi (h : (i = gx ∧ w35.heap.size ≤ i)) => show i = bk30 ∨ w35.heap.size ≤ i by first | omega | assumption)).next u79 (fun i hi (h : i = bk30) => show i = bk30 ∨ w35.heap.size ≤ i by first | omega | assumption)))
    refine go ?_
    refine x_l fun bk84 w85 ebk84 sbk84 B86 u87 => ?_
    have E88 := Sc.mk (E51.u.nx u87)
    refine go ?_
    refine s_or ?_ ?_
    ·
     refine go ?_
     refine t_copy (enc := encOpt) (z := .agg #[.int .i64 0, .int .i64 0, .int .i64 0, .int .i64 0, .int .i64 0, .int .i64 0]) (bytes := 48) (k := 6) (ys := (nth rows k).xs) underlying45 (by kernel_rfl) rfl (by decide) (fun _ => rfl) (by intro x; simp [encOpt, Value.oneCell']) rfl rfl rfl rfl B86 ((hM (nth rows k) (nth_mem (by omega))).1.keep E88.u (fun _ h => h)) (by omega) (by decide) (fun ao89 gb90 cp91 w92 A93 u94 gegb90 => ?_)
     have zu94 := u94.size
     have lt_gb90 := A93.lt
     refine go ?_
     refine x_l fun bk96 w97 ebk96 sbk96 B98 u99 => ?_
     refine go ?_
     have D101 := ((((hout.keep u50 (fun _ h => h)).keep u87 (fun _ h => h)).keep u94 (fun hb => show ¬ ((gx = bk84 ∧ bk84 ≤ gx)) by first | omega | assumption)).keep u99 (fun _ h => h))
     refine t_append (z := .agg #[.slice none 0 0]) (bytes := 24) (k := 1) (base := w35.heap.size) (⟨(nth rows k).xs, ao89, gb90, 0, cp91⟩ : HC) underlying36 (by kernel_rfl) rfl (by decide) (fun _ => rfl) (by intro x; simp [encHC, Value.oneCell']) rfl rfl rfl rfl D101 B98 (by omega) (by omega) (by decide) (fun ao102 gb103 cp104 w105 A106 u107 gegb103 lngb103 => ?_)
     have zu107 := u107.size
     have lt_gb103 := A106.lt
     refine go ?_
     refine x_s fun w109 sw109 B111 u110 => ?_
     refine go ?_
     have D113 := (A106.keep u110 (fun hb => show ¬ (gb103 = bk30) by first | omega | assumption))
     have D114 := (((A93.keep u99 (fun _ h => h)).keep u107 (fun hb => show ¬ ((gb90 = gx ∧ w35.heap.size ≤ gb90)) by first | omega | assumption)).keep u110 (fun hb => show ¬ (gb90 = bk30) by first | omega | assumption))
     have uR := (((((((Upd.refl (fun i => (i = gx ∧ w35.heap.size ≤ i) ∨ i = bk30) w42).nx u50).nx u87).next u94 (fun i hi (h : (i = bk84 ∧ bk84 ≤ i)) => show (i = gx ∧ w35.heap.size ≤ i) ∨ i = bk30 by omega)).nx u99).next u107 (fun i hi (h : (i = gx ∧ w35.heap.size ≤ i)) => show (i = gx ∧ w35.heap.size ≤ i) ∨ i = bk30 by omega)).next u110 (fun i hi (h : i = bk30) => show (i = gx ∧ w35.heap.size ≤ i) ∨ i = bk30 by omega))
     have hpA := D114
     exact hK41 (k + 1) ao102 gb103 cp104 (out ++ [(⟨(nth rows k).xs, ao89, gb90, 0, cp91⟩ : HC)]) ⟨B111, (by omega), D113, (by rw [List.map_append, hom, take_nth (by omega), List.map_append]; rfl), (fun h hh => by
       rcases List.mem_append.1 hh with q | q
       · exact (hoc h q).upd uR (fun hb cs hB h9 => h9.elim (hout0.notBlk hB (by decide)) (fun e9 => by omega))
       · rw [List.mem_singleton.1 q]; exact ⟨⟨_, by omega, hpA⟩, rfl⟩)⟩ (hu := ((((((u43.nx u50).nx u87).next u94 (fun i hi (h : (i = bk84 ∧ bk84 ≤ i)) => show i = bk30 ∨ w35.heap.size ≤ i by first | omega | assumption)).nx u99).next u107 (fun i hi (h : (i = gx ∧ w35.heap.size ≤ i)) => show i = bk30 ∨ w35.heap.size ≤ i by first | omega | assumption)).next u110 (fun i hi (h : i = bk30) => show i = bk30 ∨ w35.heap.size ≤ i by first | omega | assumption)))
    refine go ?_
    refine t_copy (enc := encOpt) (z := .agg #[.int .i64 0, .int .i64 0, .int .i64 0, .int .i64 0, .int .i64 0, .int .i64 0]) (bytes := 48) (k := 6) (ys := (nth rows k).xs) underlying45 (by kernel_rfl) rfl (by decide) (fun _ => rfl) (by intro x; simp [encOpt, Value.oneCell']) rfl rfl rfl rfl B86 ((hM (nth rows k) (nth_mem (by omega))).1.keep E88.u (fun _ h => h)) (by omega) (by decide) (fun ao115 gb116 cp117 w118 A119 u120 gegb116 => ?_)
    have zu120 := u120.size
    have lt_gb116 := A119.lt
    refine go ?_
    refine s_or ?_ ?_
    ·
     refine go ?_
     refine x_l fun bk122 w123 ebk122 sbk122 B124 u125 => ?_
     refine go ?_
     have D127 := ((((hout.keep u50 (fun _ h => h)).keep u87 (fun _ h => h)).keep u120 (fun hb => show ¬ ((gx = bk84 ∧ bk84 ≤ gx)) by first | omega | assumption)).keep u125 (fun _ h => h))
     refine t_append (z := .agg #[.slice none 0 0]) (bytes := 24) (k := 1) (base := w35.heap.size) (⟨(nth rows k).xs, ao115, gb116, 0, cp117⟩ : HC) underlying36 (by kernel_rfl) rfl (by decide) (fun _ => rfl) (by intro x; simp [encHC, Value.oneCell']) rfl rfl rfl rfl D127 B124 (by omega) (by omega) (by decide) (fun ao128 gb129 cp130 w131 A132 u133 gegb129 lngb129 => ?_)
     have zu133 := u133.size
     have lt_gb129 := A132.lt
     refine go ?_
     refine x_s fun w135 sw135 B137 u136 => ?_
     refine go ?_
     have D139 := (A132.keep u136 (fun hb => show ¬ (gb129 = bk30) by first | omega | assumption))
     have D140 := (((A119.keep u125 (fun _ h => h)).keep u133 (fun hb => show ¬ ((gb116 = gx ∧ w35.heap.size ≤ gb116)) by first | omega | assumption)).keep u136 (fun hb => show ¬ (gb116 = bk30) by first | omega | assumption))
     have uR := (((((((Upd.refl (fun i => (i = gx ∧ w35.heap.size ≤ i) ∨ i = bk30) w42).nx u50).nx u87).next u120 (fun i hi (h : (i = bk84 ∧ bk84 ≤ i)) => show (i = gx ∧ w35.heap.size ≤ i) ∨ i = bk30 by omega)).nx u125).next u133 (fun i hi (h : (i = gx ∧ w35.heap.size ≤ i)) => show (i = gx ∧ w35.heap.size ≤ i) ∨ i = bk30 by omega)).next u136 (fun i hi (h : i = bk30) => show (i = gx ∧ w35.heap.size ≤ i) ∨ i = bk30 by omega))
     have hpA := D140
     exact hK41 (k + 1) ao128 gb129 cp130 (out ++ [(⟨(nth rows k).xs, ao115, gb116, 0, cp117⟩ : HC)]) ⟨B137, (by omega), D139, (by rw [List.map_append, hom, take_nth (by omega), List.map_append]; rfl), (fun h hh => by
       rcases List.mem_append.1 hh with q | q
       · exact (hoc h q).upd uR (fun hb cs hB h9 => h9.elim (hout0.notBlk hB (by decide)) (fun e9 => by omega))
       · rw [List.mem_singleton.1 q]; exact ⟨⟨_, by omega, hpA⟩, rfl⟩)⟩ (hu := ((((((u43.nx u50).nx u87).next u120 (fun i hi (h : (i = bk84 ∧ bk84 ≤ i)) => show i = bk30 ∨ w35.heap.size ≤ i by first | omega | assumption)).nx u125).next u133 (fun i hi (h : (i = gx ∧ w35.heap.size ≤ i)) => show i = bk30 ∨ w35.heap.size ≤ i by first | omega | assumption)).next u136 (fun i hi (h : i = bk30) => show i = bk30 ∨ w35.heap.size ≤ i by first | omega | assumption)))
    refine go ?_
    refine x_l fun bk141 w142 ebk141 sbk141 B143 u144 => ?_
    refine go ?_
    have D146 := ((((hout.keep u50 (fun _ h => h)).keep u87 (fun _ h => h)).keep u120 (fun hb => show ¬ ((gx = bk84 ∧ bk84 ≤ gx)) by first | omega | assumption)).keep u144 (fun _ h => h))
    refine t_append (z := .agg #[.slice none 0 0]) (bytes := 24) (k := 1) (base := w35.heap.size) (⟨(nth rows k).xs, ao115, gb116, 0, cp117⟩ : HC) underlying36 (by kernel_rfl) rfl (by decide) (fun _ => rfl) (by intro x; simp [encHC, Value.oneCell']) rfl rfl rfl rfl D146 B143 (by omega) (by omega) (by decide) (fun ao147 gb148 cp149 w150 A151 u152 gegb148 lngb148 => ?_)
    have zu152 := u152.size
    have lt_gb148 := A151.lt
    refine go ?_
    refine x_s fun w154 sw154 B156 u155 => ?_
    refine go ?_
    have D158 := (A151.keep u155 (fun hb => show ¬ (gb148 = bk30) by first | omega | assumption))
    have D159 := (((A119.keep u144 (fun _ h => h)).keep u152 (fun hb => show ¬ ((gb116 = gx ∧ w35.heap.size ≤ gb116)) by first | omega | assumption)).keep u155 (fun hb => show ¬ (gb116 = bk30) by first | omega | assumption))
    have uR := (((((((Upd.refl (fun i => (i = gx ∧ w35.heap.size ≤ i) ∨ i = bk30) w42).nx u50).nx u87).next u120 (fun i hi (h : (i = bk84 ∧ bk84 ≤ i)) => show (i = gx ∧ w35.heap.size ≤ i) ∨ i = bk30 by omega)).nx u144).next u152 (fun i hi (h : (i = gx ∧ w35.heap.size ≤ i)) => show (i = gx ∧ w35.heap.size ≤ i) ∨ i = bk30 by omega)).next u155 (fun i hi (h : i = bk30) => show (i = gx ∧ w35.heap.size ≤ i) ∨ i = bk30 by omega))
    have hpA := D159
    exact hK41 (k + 1) ao147 gb148 cp149 (out ++ [(⟨(nth rows k).xs, ao115, gb116, 0, cp117⟩ : HC)]) ⟨B156, (by omega), D158, (by rw [List.map_append, hom, take_nth (by omega), List.map_append]; rfl), (fun h hh => by
      rcases List.mem_append.1 hh with q | q
      · exact (hoc h q).upd uR (fun hb cs hB h9 => h9.elim (hout0.notBlk hB (by decide)) (fun e9 => by omega))
      · rw [List.mem_singleton.1 q]; exact ⟨⟨_, by omega, hpA⟩, rfl⟩)⟩ (hu := ((((((u43.nx u50).nx u87).next u120 (fun i hi (h : (i = bk84 ∧ bk84 ≤ i)) => show i = bk30 ∨ w35.heap.size ≤ i by first | omega | assumption)).nx u144).next u152 (fun i hi (h : (i = gx ∧ w35.heap.size ≤ i)) => show i = bk30 ∨ w35.heap.size ≤ i by first | omega | assumption)).next u155 (fun i hi (h : i = bk30) => show i = bk30 ∨ w35.heap.size ≤ i by first | omega | assumption)))
   refine go ?_
   refine x_s fun w161 sw161 B163 u162 => ?_
   refine go ?_
   refine f_ret1 (v := .agg #[.int .i64 (n : Int), .slice ao21 cs.length cp23, .slice ao out.length co]) results13 ⟨_, _, rfl, run_loadVarN (vs := [.int .i64 (n : Int), .slice ao21 cs.length cp23, .slice ao out.length co]) isAgg38 sizeOf38 rfl (B163.at.sub 0 3)⟩ ?_
   have uR2 := ((Upd.refl (fun i => i = bk7) w42).next u162 (fun i hi (h : i = bk7) => show i = bk7 by omega))
   have D165 := (hout.keep u162 (fun hb => show ¬ (gx = bk7) by first | omega | assumption))
   have D166 := ((((A25.keep u33 (fun _ h => h)).keep u36 (fun hb => show ¬ (gb22 = bk30) by first | omega | assumption)).keep u43 (fun hb => show ¬ (gb22 = bk30 ∨ w35.heap.size ≤ gb22) by first | omega | assumption)).keep u162 (fun hb => show ¬ (gb22 = bk7) by first | omega | assumption))
   have hme : out.map HC.xs = rows.map HC.xs := by rw [hom, List.take_of_length_le (by omega)]
   obtain ⟨g9, ha9⟩ := Acc.lower (base' := w0.heap.size) D165 (by omega) hpos
   obtain ⟨g8, ha8⟩ := Acc.lower (base' := w0.heap.size) D166 (by omega) hpos
   exact ⟨⟨_, g8, _, ao, g9, co, out, rfl, ha8, ha9, hme, fun h hh => ((hoc h hh).upd uR2 (fun hb _ _ (e9 : h.b = bk7) => by omega)).low (by omega)⟩, u_d⟩
  refine go ?_
  refine x_n fun bk167 w168 ebk167 sbk167 B169 u170 => ?_
  have E171 := Sc.mk (E20.u.nx u170)
  refine go ?_
  have B172 := (B18.kx u170)
  refine t_copy (enc := encBcl) (z := .agg #[.int .i64 0, .int .i64 0]) (bytes := 16) (k := 2) (ys := cs) underlying35 (by kernel_rfl) rfl (by decide) (fun _ => rfl) (by intro x; simp [encBcl, Value.oneCell']) rfl rfl rfl rfl B172 (hC.keep E171.u (fun _ h => h)) (by omega) (by decide) (fun ao173 gb174 cp175 w176 A177 u178 gegb174 => ?_)
  have zu178 := u178.size
  have B180 := (((((B4.kx u10).kx u14).kx u19).kx u170).keep u178 (by omega))
  have ne_gb174_bk2 := A177.neBlk B180 (by decide) gegb174
  have B181 := ((((B9.kx u14).kx u19).kx u170).keep u178 (by omega))
  have ne_gb174_bk7 := A177.neBlk B181 (by decide) gegb174
  have B182 := (B169.keep u178 (by omega))
  have ne_gb174_bk167 := A177.neBlk B182 (by decide) gegb174
  have lt_gb174 := A177.lt
  refine go ?_
  refine x_s fun w183 sw183 B185 u184 => ?_
  refine go ?_
  refine x_l5 (fun i => i = bk167 ∨ w183.heap.size ≤ i) [1, 2, 3] (fun (k : Nat) (ao : Option Addr) (gx : Nat) (co : Nat) (out : List HC) => [(4, .int .i64 (k : Int))]) (fun k ao gx co out w => Blk w bk167 38 [.int .i64 (n : Int), .slice ao173 cs.length cp175, .slice ao out.length co] ∧ (k ≤ rows.length) ∧ (Acc encHC 1 47 w183.heap.size w ao gx co out) ∧ (out.map HC.xs = (rows.take k).map HC.xs) ∧ (∀ h ∈ out, OptC w183.heap.size w h)) (fun k ao gx co out => rows.length - k) 0 none 0 0 ([]) ⟨B185, (Nat.zero_le _), (Acc.nil encHC 1 47 w183.heap.size _ (by omega) (Nat.le_refl _)), rfl, (fun h hh => by cases hh)⟩ ?_
  rintro k ao gx co out w190 ⟨I192, hk, hout, hom, hoc⟩ u191 zu191 K189 hK189
  have lt_gx := hout.lt
  have hol : out.length = k := by have := congrArg List.length hom; simpa [List.length_take, Nat.min_eq_left hk] using this
  have hout0 := hout
  refine go ?_
  refine q_p (fun g16 => ?_) fun g16 => ?_
  ·
   have hM1 := hM (nth rows k) (nth_mem (by omega))
   have hxl1 := hM1.2
   have hbr9 := hR.lt (by omega)
   refine go ?_
   refine c_drawnM follows (fun i => (i = gx ∧ w183.heap.size ≤ i) ∨ i = bk167) (.look 0 (.look 3 (.look 4 (.look 5 (.look 6 (.look 7 (.look 8 (.act 1 (.act 2 (.act 9 (.look 10 (.act 11 (.act 12 (.look 13 (.act 14 .done .stop)) .stop) .stop)) .stop) .stop) (.act 2 (.act 1 (.act 9 (.look 10 (.act 11 (.act 12 (.look 13 (.act 14 .done .stop)) .stop) .stop)) .stop) (.act 9 (.look 10 (.act 1 (.act 11 (.act 12 (.look 13 (.act 14 .done .stop)) .stop) .stop) (.act 11 (.act 1 (.act 12 (.look 13 (.act 14 .done .stop)) .stop) .stop) .stop))) .stop)) .stop))))))))) (by kernel_rfl) fun w197 u198 => ?_
   have zu198 := u198.size
   have E199 := Sc.mk ((((E171.u.next u178 (fun i hi h => by omega)).next u184 (fun i hi h => by omega)).next u191 (fun i hi (h : i = bk167 ∨ w183.heap.size ≤ i) => show False by first | omega | assumption)).nx u198)
   refine go ?_
   refine y_i k (hR.keep E199.u (fun _ h => h)) (fun _ => ?_)
   refine go ?_
   refine s_or ?_ ?_
   ·
    refine go ?_
    refine x_l fun bk201 w202 ebk201 sbk201 B203 u204 => ?_
    refine go ?_
    refine t_copy (enc := encOpt) (z := .agg #[.int .i64 0, .int .i64 0, .int .i64 0, .int .i64 0, .int .i64 0, .int .i64 0]) (bytes := 48) (k := 6) (ys := (nth rows k).xs) underlying45 (by kernel_rfl) rfl (by decide) (fun _ => rfl) (by intro x; simp [encOpt, Value.oneCell']) rfl rfl rfl rfl B203 ((hM (nth rows k) (nth_mem (by omega))).1.keep (E199.u.nx u204) (fun _ h => h)) (by omega) (by decide) (fun ao206 gb207 cp208 w209 A210 u211 gegb207 => ?_)
    have zu211 := u211.size
    have lt_gb207 := A210.lt
    refine go ?_
    refine x_l fun bk213 w214 ebk213 sbk213 B215 u216 => ?_
    refine go ?_
    have D218 := ((((hout.keep u198 (fun _ h => h)).keep u204 (fun _ h => h)).keep u211 (fun hb => show ¬ ((gx = bk201 ∧ bk201 ≤ gx)) by first | omega | assumption)).keep u216 (fun _ h => h))
    refine t_append (z := .agg #[.slice none 0 0]) (bytes := 24) (k := 1) (base := w183.heap.size) (⟨(nth rows k).xs, ao206, gb207, 0, cp208⟩ : HC) underlying36 (by kernel_rfl) rfl (by decide) (fun _ => rfl) (by intro x; simp [encHC, Value.oneCell']) rfl rfl rfl rfl D218 B215 (by omega) (by omega) (by decide) (fun ao219 gb220 cp221 w222 A223 u224 gegb220 lngb220 => ?_)
    have zu224 := u224.size
    have lt_gb220 := A223.lt
    refine go ?_
    refine x_s fun w226 sw226 B228 u227 => ?_
    refine go ?_
    have D230 := (A223.keep u227 (fun hb => show ¬ (gb220 = bk167) by first | omega | assumption))
    have D231 := (((A210.keep u216 (fun _ h => h)).keep u224 (fun hb => show ¬ ((gb207 = gx ∧ w183.heap.size ≤ gb207)) by first | omega | assumption)).keep u227 (fun hb => show ¬ (gb207 = bk167) by first | omega | assumption))
    have uR := (((((((Upd.refl (fun i => (i = gx ∧ w183.heap.size ≤ i) ∨ i = bk167) w190).nx u198).nx u204).next u211 (fun i hi (h : (i = bk201 ∧ bk201 ≤ i)) => show (i = gx ∧ w183.heap.size ≤ i) ∨ i = bk167 by omega)).nx u216).next u224 (fun i hi (h : (i = gx ∧ w183.heap.size ≤ i)) => show (i = gx ∧ w183.heap.size ≤ i) ∨ i = bk167 by omega)).next u227 (fun i hi (h : i = bk167) => show (i = gx ∧ w183.heap.size ≤ i) ∨ i = bk167 by omega))
    have hpA := D231
    exact hK189 (k + 1) ao219 gb220 cp221 (out ++ [(⟨(nth rows k).xs, ao206, gb207, 0, cp208⟩ : HC)]) ⟨B228, (by omega), D230, (by rw [List.map_append, hom, take_nth (by omega), List.map_append]; rfl), (fun h hh => by
      rcases List.mem_append.1 hh with q | q
      · exact (hoc h q).upd uR (fun hb cs hB h9 => h9.elim (hout0.notBlk hB (by decide)) (fun e9 => by omega))
      · rw [List.mem_singleton.1 q]; exact ⟨⟨_, by omega, hpA⟩, rfl⟩)⟩ (hu := ((((((u191.nx u198).nx u204).next u211 (fun i hi (h : (i = bk201 ∧ bk201 ≤ i)) => show i = bk167 ∨ w183.heap.size ≤ i by first | omega | assumption)).nx u216).next u224 (fun i hi (h : (i = gx ∧ w183.heap.size ≤ i)) => show i = bk167 ∨ w183.heap.size ≤ i by first | omega | assumption)).next u227 (fun i hi (h : i = bk167) => show i = bk167 ∨ w183.heap.size ≤ i by first | omega | assumption)))
   refine go ?_
   refine x_l fun bk232 w233 ebk232 sbk232 B234 u235 => ?_
   have E236 := Sc.mk (E199.u.nx u235)
   refine go ?_
   refine s_or ?_ ?_
   ·
    refine go ?_
    refine t_copy (enc := encOpt) (z := .agg #[.int .i64 0, .int .i64 0, .int .i64 0, .int .i64 0, .int .i64 0, .int .i64 0]) (bytes := 48) (k := 6) (ys := (nth rows k).xs) underlying45 (by kernel_rfl) rfl (by decide) (fun _ => rfl) (by intro x; simp [encOpt, Value.oneCell']) rfl rfl rfl rfl B234 ((hM (nth rows k) (nth_mem (by omega))).1.keep E236.u (fun _ h => h)) (by omega) (by decide) (fun ao237 gb238 cp239 w240 A241 u242 gegb238 => ?_)
    have zu242 := u242.size
    have lt_gb238 := A241.lt
    refine go ?_
    refine x_l fun bk244 w245 ebk244 sbk244 B246 u247 => ?_
    refine go ?_
    have D249 := ((((hout.keep u198 (fun _ h => h)).keep u235 (fun _ h => h)).keep u242 (fun hb => show ¬ ((gx = bk232 ∧ bk232 ≤ gx)) by first | omega | assumption)).keep u247 (fun _ h => h))
    refine t_append (z := .agg #[.slice none 0 0]) (bytes := 24) (k := 1) (base := w183.heap.size) (⟨(nth rows k).xs, ao237, gb238, 0, cp239⟩ : HC) underlying36 (by kernel_rfl) rfl (by decide) (fun _ => rfl) (by intro x; simp [encHC, Value.oneCell']) rfl rfl rfl rfl D249 B246 (by omega) (by omega) (by decide) (fun ao250 gb251 cp252 w253 A254 u255 gegb251 lngb251 => ?_)
    have zu255 := u255.size
    have lt_gb251 := A254.lt
    refine go ?_
    refine x_s fun w257 sw257 B259 u258 => ?_
    refine go ?_
    have D261 := (A254.keep u258 (fun hb => show ¬ (gb251 = bk167) by first | omega | assumption))
    have D262 := (((A241.keep u247 (fun _ h => h)).keep u255 (fun hb => show ¬ ((gb238 = gx ∧ w183.heap.size ≤ gb238)) by first | omega | assumption)).keep u258 (fun hb => show ¬ (gb238 = bk167) by first | omega | assumption))
    have uR := (((((((Upd.refl (fun i => (i = gx ∧ w183.heap.size ≤ i) ∨ i = bk167) w190).nx u198).nx u235).next u242 (fun i hi (h : (i = bk232 ∧ bk232 ≤ i)) => show (i = gx ∧ w183.heap.size ≤ i) ∨ i = bk167 by omega)).nx u247).next u255 (fun i hi (h : (i = gx ∧ w183.heap.size ≤ i)) => show (i = gx ∧ w183.heap.size ≤ i) ∨ i = bk167 by omega)).next u258 (fun i hi (h : i = bk167) => show (i = gx ∧ w183.heap.size ≤ i) ∨ i = bk167 by omega))
    have hpA := D262
    exact hK189 (k + 1) ao250 gb251 cp252 (out ++ [(⟨(nth rows k).xs, ao237, gb238, 0, cp239⟩ : HC)]) ⟨B259, (by omega), D261, (by rw [List.map_append, hom, take_nth (by omega), List.map_append]; rfl), (fun h hh => by
      rcases List.mem_append.1 hh with q | q
      · exact (hoc h q).upd uR (fun hb cs hB h9 => h9.elim (hout0.notBlk hB (by decide)) (fun e9 => by omega))
      · rw [List.mem_singleton.1 q]; exact ⟨⟨_, by omega, hpA⟩, rfl⟩)⟩ (hu := ((((((u191.nx u198).nx u235).next u242 (fun i hi (h : (i = bk232 ∧ bk232 ≤ i)) => show i = bk167 ∨ w183.heap.size ≤ i by first | omega | assumption)).nx u247).next u255 (fun i hi (h : (i = gx ∧ w183.heap.size ≤ i)) => show i = bk167 ∨ w183.heap.size ≤ i by first | omega | assumption)).next u258 (fun i hi (h : i = bk167) => show i = bk167 ∨ w183.heap.size ≤ i by first | omega | assumption)))
   refine go ?_
   refine t_copy (enc := encOpt) (z := .agg #[.int .i64 0, .int .i64 0, .int .i64 0, .int .i64 0, .int .i64 0, .int .i64 0]) (bytes := 48) (k := 6) (ys := (nth rows k).xs) underlying45 (by kernel_rfl) rfl (by decide) (fun _ => rfl) (by intro x; simp [encOpt, Value.oneCell']) rfl rfl rfl rfl B234 ((hM (nth rows k) (nth_mem (by omega))).1.keep E236.u (fun _ h => h)) (by omega) (by decide) (fun ao263 gb264 cp265 w266 A267 u268 gegb264 => ?_)
   have zu268 := u268.size
   have lt_gb264 := A267.lt
   refine go ?_
   refine s_or ?_ ?_
   ·
    refine go ?_
    refine x_l fun bk270 w271 ebk270 sbk270 B272 u273 => ?_
    refine go ?_
    have D275 := ((((hout.keep u198 (fun _ h => h)).keep u235 (fun _ h => h)).keep u268 (fun hb => show ¬ ((gx = bk232 ∧ bk232 ≤ gx)) by first | omega | assumption)).keep u273 (fun _ h => h))
    refine t_append (z := .agg #[.slice none 0 0]) (bytes := 24) (k := 1) (base := w183.heap.size) (⟨(nth rows k).xs, ao263, gb264, 0, cp265⟩ : HC) underlying36 (by kernel_rfl) rfl (by decide) (fun _ => rfl) (by intro x; simp [encHC, Value.oneCell']) rfl rfl rfl rfl D275 B272 (by omega) (by omega) (by decide) (fun ao276 gb277 cp278 w279 A280 u281 gegb277 lngb277 => ?_)
    have zu281 := u281.size
    have lt_gb277 := A280.lt
    refine go ?_
    refine x_s fun w283 sw283 B285 u284 => ?_
    refine go ?_
    have D287 := (A280.keep u284 (fun hb => show ¬ (gb277 = bk167) by first | omega | assumption))
    have D288 := (((A267.keep u273 (fun _ h => h)).keep u281 (fun hb => show ¬ ((gb264 = gx ∧ w183.heap.size ≤ gb264)) by first | omega | assumption)).keep u284 (fun hb => show ¬ (gb264 = bk167) by first | omega | assumption))
    have uR := (((((((Upd.refl (fun i => (i = gx ∧ w183.heap.size ≤ i) ∨ i = bk167) w190).nx u198).nx u235).next u268 (fun i hi (h : (i = bk232 ∧ bk232 ≤ i)) => show (i = gx ∧ w183.heap.size ≤ i) ∨ i = bk167 by omega)).nx u273).next u281 (fun i hi (h : (i = gx ∧ w183.heap.size ≤ i)) => show (i = gx ∧ w183.heap.size ≤ i) ∨ i = bk167 by omega)).next u284 (fun i hi (h : i = bk167) => show (i = gx ∧ w183.heap.size ≤ i) ∨ i = bk167 by omega))
    have hpA := D288
    exact hK189 (k + 1) ao276 gb277 cp278 (out ++ [(⟨(nth rows k).xs, ao263, gb264, 0, cp265⟩ : HC)]) ⟨B285, (by omega), D287, (by rw [List.map_append, hom, take_nth (by omega), List.map_append]; rfl), (fun h hh => by
      rcases List.mem_append.1 hh with q | q
      · exact (hoc h q).upd uR (fun hb cs hB h9 => h9.elim (hout0.notBlk hB (by decide)) (fun e9 => by omega))
      · rw [List.mem_singleton.1 q]; exact ⟨⟨_, by omega, hpA⟩, rfl⟩)⟩ (hu := ((((((u191.nx u198).nx u235).next u268 (fun i hi (h : (i = bk232 ∧ bk232 ≤ i)) => show i = bk167 ∨ w183.heap.size ≤ i by first | omega | assumption)).nx u273).next u281 (fun i hi (h : (i = gx ∧ w183.heap.size ≤ i)) => show i = bk167 ∨ w183.heap.size ≤ i by first | omega | assumption)).next u284 (fun i hi (h : i = bk167) => show i = bk167 ∨ w183.heap.size ≤ i by first | omega | assumption)))
   refine go ?_
   refine x_l fun bk289 w290 ebk289 sbk289 B291 u292 => ?_
   refine go ?_
   have D294 := ((((hout.keep u198 (fun _ h => h)).keep u235 (fun _ h => h)).keep u268 (fun hb => show ¬ ((gx = bk232 ∧ bk232 ≤ gx)) by first | omega | assumption)).keep u292 (fun _ h => h))
   refine t_append (z := .agg #[.slice none 0 0]) (bytes := 24) (k := 1) (base := w183.heap.size) (⟨(nth rows k).xs, ao263, gb264, 0, cp265⟩ : HC) underlying36 (by kernel_rfl) rfl (by decide) (fun _ => rfl) (by intro x; simp [encHC, Value.oneCell']) rfl rfl rfl rfl D294 B291 (by omega) (by omega) (by decide) (fun ao295 gb296 cp297 w298 A299 u300 gegb296 lngb296 => ?_)
   have zu300 := u300.size
   have lt_gb296 := A299.lt
   refine go ?_
   refine x_s fun w302 sw302 B304 u303 => ?_
   refine go ?_
   have D306 := (A299.keep u303 (fun hb => show ¬ (gb296 = bk167) by first | omega | assumption))
   have D307 := (((A267.keep u292 (fun _ h => h)).keep u300 (fun hb => show ¬ ((gb264 = gx ∧ w183.heap.size ≤ gb264)) by first | omega | assumption)).keep u303 (fun hb => show ¬ (gb264 = bk167) by first | omega | assumption))
   have uR := (((((((Upd.refl (fun i => (i = gx ∧ w183.heap.size ≤ i) ∨ i = bk167) w190).nx u198).nx u235).next u268 (fun i hi (h : (i = bk232 ∧ bk232 ≤ i)) => show (i = gx ∧ w183.heap.size ≤ i) ∨ i = bk167 by omega)).nx u292).next u300 (fun i hi (h : (i = gx ∧ w183.heap.size ≤ i)) => show (i = gx ∧ w183.heap.size ≤ i) ∨ i = bk167 by omega)).next u303 (fun i hi (h : i = bk167) => show (i = gx ∧ w183.heap.size ≤ i) ∨ i = bk167 by omega))
   have hpA := D307
   exact hK189 (k + 1) ao295 gb296 cp297 (out ++ [(⟨(nth rows k).xs, ao263, gb264, 0, cp265⟩ : HC)]) ⟨B304, (by omega), D306, (by rw [List.map_append, hom, take_nth (by omega), List.map_append]; rfl), (fun h hh => by
     rcases List.mem_append.1 hh with q | q
     · exact (hoc h q).upd uR (fun hb cs hB h9 => h9.elim (hout0.notBlk hB (by decide)) (fun e9 => by omega))
     · rw [List.mem_singleton.1 q]; exact ⟨⟨_, by omega, hpA⟩, rfl⟩)⟩ (hu := ((((((u191.nx u198).nx u235).next u268 (fun i hi (h : (i = bk232 ∧ bk232 ≤ i)) => show i = bk167 ∨ w183.heap.size ≤ i by first | omega | assumption)).nx u292).next u300 (fun i hi (h : (i = gx ∧ w183.heap.size ≤ i)) => show i = bk167 ∨ w183.heap.size ≤ i by first | omega | assumption)).next u303 (fun i hi (h : i = bk167) => show i = bk167 ∨ w183.heap.size ≤ i by first | omega | assumption)))
  refine go ?_
  refine x_s fun w309 sw309 B311 u310 => ?_
  refine go ?_
  refine f_ret1 (v := .agg #[.int .i64 (n : Int), .slice ao173 cs.length cp175, .slice ao out.length co]) results13 ⟨_, _, rfl, run_loadVarN (vs := [.int .i64 (n : Int), .slice ao173 cs.length cp175, .slice ao out.length co]) isAgg38 sizeOf38 rfl (B311.at.sub 0 3)⟩ ?_
  have uR2 := ((Upd.refl (fun i => i = bk7) w190).next u310 (fun i hi (h : i = bk7) => show i = bk7 by omega))
  have D313 := (hout.keep u310 (fun hb => show ¬ (gx = bk7) by first | omega | assumption))
  have D314 := (((A177.keep u184 (fun hb => show ¬ (gb174 = bk167) by first | omega | assumption)).keep u191 (fun hb => show ¬ (gb174 = bk167 ∨ w183.heap.size ≤ gb174) by first | omega | assumption)).keep u310 (fun hb => show ¬ (gb174 = bk7) by first | omega | assumption))
  have hme : out.map HC.xs = rows.map HC.xs := by rw [hom, List.take_of_length_le (by omega)]
  obtain ⟨g9, ha9⟩ := Acc.lower (base' := w0.heap.size) D313 (by omega) hpos
  obtain ⟨g8, ha8⟩ := Acc.lower (base' := w0.heap.size) D314 (by omega) hpos
  exact ⟨⟨_, g8, _, ao, g9, co, out, rfl, ha8, ha9, hme, fun h hh => ((hoc h hh).upd uR2 (fun hb _ _ (e9 : h.b = bk7) => by omega)).low (by omega)⟩, u_d⟩
 refine go ?_
 refine x_n fun bk315 w316 ebk315 sbk315 B317 u318 => ?_
 refine go ?_
 refine x_l fun bk320 w321 ebk320 sbk320 B322 u323 => ?_
 have E324 := Sc.mk ((E15.u.nx u318).nx u323)
 refine go ?_
 refine t_copy (enc := encBcl) (z := .agg #[.int .i64 0, .int .i64 0]) (bytes := 16) (k := 2) (ys := cs) underlying35 (by kernel_rfl) rfl (by decide) (fun _ => rfl) (by intro x; simp [encBcl, Value.oneCell']) rfl rfl rfl rfl B322 (hC.keep E324.u (fun _ h => h)) (by omega) (by decide) (fun ao325 gb326 cp327 w328 A329 u330 gegb326 => ?_)
 have zu330 := u330.size
 have B332 := (((((B4.kx u10).kx u14).kx u318).kx u323).keep u330 (by omega))
 have ne_gb326_bk2 := A329.neBlk B332 (by decide) gegb326
 have B333 := ((((B9.kx u14).kx u318).kx u323).keep u330 (by omega))
 have ne_gb326_bk7 := A329.neBlk B333 (by decide) gegb326
 have B334 := ((B317.kx u323).keep u330 (by omega))
 have ne_gb326_bk315 := A329.neBlk B334 (by decide) gegb326
 have lt_gb326 := A329.lt
 refine go ?_
 refine x_s fun w335 sw335 B337 u336 => ?_
 refine go ?_
 refine x_l5 (fun i => i = bk315 ∨ w335.heap.size ≤ i) [1, 2, 3] (fun (k : Nat) (ao : Option Addr) (gx : Nat) (co : Nat) (out : List HC) => [(4, .int .i64 (k : Int))]) (fun k ao gx co out w => Blk w bk315 38 [.int .i64 (n : Int), .slice ao325 cs.length cp327, .slice ao out.length co] ∧ (k ≤ rows.length) ∧ (Acc encHC 1 47 w335.heap.size w ao gx co out) ∧ (out.map HC.xs = (rows.take k).map HC.xs) ∧ (∀ h ∈ out, OptC w335.heap.size w h)) (fun k ao gx co out => rows.length - k) 0 none 0 0 ([]) ⟨B337, (Nat.zero_le _), (Acc.nil encHC 1 47 w335.heap.size _ (by omega) (Nat.le_refl _)), rfl, (fun h hh => by cases hh)⟩ ?_
 rintro k ao gx co out w342 ⟨I344, hk, hout, hom, hoc⟩ u343 zu343 K341 hK341
 have lt_gx := hout.lt
 have hol : out.length = k := by have := congrArg List.length hom; simpa [List.length_take, Nat.min_eq_left hk] using this
 have hout0 := hout
 refine go ?_
 refine q_p (fun g16 => ?_) fun g16 => ?_
 ·
  have hM1 := hM (nth rows k) (nth_mem (by omega))
  have hxl1 := hM1.2
  have hbr9 := hR.lt (by omega)
  refine go ?_
  refine c_drawnM follows (fun i => (i = gx ∧ w335.heap.size ≤ i) ∨ i = bk315) (.look 0 (.look 3 (.look 4 (.look 5 (.look 6 (.look 7 (.look 8 (.act 1 (.act 2 (.act 9 (.look 10 (.act 11 (.act 12 (.look 13 (.act 14 .done .stop)) .stop) .stop)) .stop) .stop) (.act 2 (.act 1 (.act 9 (.look 10 (.act 11 (.act 12 (.look 13 (.act 14 .done .stop)) .stop) .stop)) .stop) (.act 9 (.look 10 (.act 1 (.act 11 (.act 12 (.look 13 (.act 14 .done .stop)) .stop) .stop) (.act 11 (.act 1 (.act 12 (.look 13 (.act 14 .done .stop)) .stop) .stop) .stop))) .stop)) .stop))))))))) (by kernel_rfl) fun w349 u350 => ?_
  have zu350 := u350.size
  have E351 := Sc.mk ((((E324.u.next u330 (fun i hi h => by omega)).next u336 (fun i hi h => by omega)).next u343 (fun i hi (h : i = bk315 ∨ w335.heap.size ≤ i) => show False by first | omega | assumption)).nx u350)
  refine go ?_
  refine y_i k (hR.keep E351.u (fun _ h => h)) (fun _ => ?_)
  refine go ?_
  refine s_or ?_ ?_
  ·
   refine go ?_
   refine x_l fun bk353 w354 ebk353 sbk353 B355 u356 => ?_
   refine go ?_
   refine t_copy (enc := encOpt) (z := .agg #[.int .i64 0, .int .i64 0, .int .i64 0, .int .i64 0, .int .i64 0, .int .i64 0]) (bytes := 48) (k := 6) (ys := (nth rows k).xs) underlying45 (by kernel_rfl) rfl (by decide) (fun _ => rfl) (by intro x; simp [encOpt, Value.oneCell']) rfl rfl rfl rfl B355 ((hM (nth rows k) (nth_mem (by omega))).1.keep (E351.u.nx u356) (fun _ h => h)) (by omega) (by decide) (fun ao358 gb359 cp360 w361 A362 u363 gegb359 => ?_)
   have zu363 := u363.size
   have lt_gb359 := A362.lt
   refine go ?_
   refine x_l fun bk365 w366 ebk365 sbk365 B367 u368 => ?_
   refine go ?_
   have D370 := ((((hout.keep u350 (fun _ h => h)).keep u356 (fun _ h => h)).keep u363 (fun hb => show ¬ ((gx = bk353 ∧ bk353 ≤ gx)) by first | omega | assumption)).keep u368 (fun _ h => h))
   refine t_append (z := .agg #[.slice none 0 0]) (bytes := 24) (k := 1) (base := w335.heap.size) (⟨(nth rows k).xs, ao358, gb359, 0, cp360⟩ : HC) underlying36 (by kernel_rfl) rfl (by decide) (fun _ => rfl) (by intro x; simp [encHC, Value.oneCell']) rfl rfl rfl rfl D370 B367 (by omega) (by omega) (by decide) (fun ao371 gb372 cp373 w374 A375 u376 gegb372 lngb372 => ?_)
   have zu376 := u376.size
   have lt_gb372 := A375.lt
   refine go ?_
   refine x_s fun w378 sw378 B380 u379 => ?_
   refine go ?_
   have D382 := (A375.keep u379 (fun hb => show ¬ (gb372 = bk315) by first | omega | assumption))
   have D383 := (((A362.keep u368 (fun _ h => h)).keep u376 (fun hb => show ¬ ((gb359 = gx ∧ w335.heap.size ≤ gb359)) by first | omega | assumption)).keep u379 (fun hb => show ¬ (gb359 = bk315) by first | omega | assumption))
   have uR := (((((((Upd.refl (fun i => (i = gx ∧ w335.heap.size ≤ i) ∨ i = bk315) w342).nx u350).nx u356).next u363 (fun i hi (h : (i = bk353 ∧ bk353 ≤ i)) => show (i = gx ∧ w335.heap.size ≤ i) ∨ i = bk315 by omega)).nx u368).next u376 (fun i hi (h : (i = gx ∧ w335.heap.size ≤ i)) => show (i = gx ∧ w335.heap.size ≤ i) ∨ i = bk315 by omega)).next u379 (fun i hi (h : i = bk315) => show (i = gx ∧ w335.heap.size ≤ i) ∨ i = bk315 by omega))
   have hpA := D383
   exact hK341 (k + 1) ao371 gb372 cp373 (out ++ [(⟨(nth rows k).xs, ao358, gb359, 0, cp360⟩ : HC)]) ⟨B380, (by omega), D382, (by rw [List.map_append, hom, take_nth (by omega), List.map_append]; rfl), (fun h hh => by
     rcases List.mem_append.1 hh with q | q
     · exact (hoc h q).upd uR (fun hb cs hB h9 => h9.elim (hout0.notBlk hB (by decide)) (fun e9 => by omega))
     · rw [List.mem_singleton.1 q]; exact ⟨⟨_, by omega, hpA⟩, rfl⟩)⟩ (hu := ((((((u343.nx u350).nx u356).next u363 (fun i hi (h : (i = bk353 ∧ bk353 ≤ i)) => show i = bk315 ∨ w335.heap.size ≤ i by first | omega | assumption)).nx u368).next u376 (fun i hi (h : (i = gx ∧ w335.heap.size ≤ i)) => show i = bk315 ∨ w335.heap.size ≤ i by first | omega | assumption)).next u379 (fun i hi (h : i = bk315) => show i = bk315 ∨ w335.heap.size ≤ i by first | omega | assumption)))
  refine go ?_
  refine x_l fun bk384 w385 ebk384 sbk384 B386 u387 => ?_
  have E388 := Sc.mk (E351.u.nx u387)
  refine go ?_
  refine s_or ?_ ?_
  ·
   refine go ?_
   refine t_copy (enc := encOpt) (z := .agg #[.int .i64 0, .int .i64 0, .int .i64 0, .int .i64 0, .int .i64 0, .int .i64 0]) (bytes := 48) (k := 6) (ys := (nth rows k).xs) underlying45 (by kernel_rfl) rfl (by decide) (fun _ => rfl) (by intro x; simp [encOpt, Value.oneCell']) rfl rfl rfl rfl B386 ((hM (nth rows k) (nth_mem (by omega))).1.keep E388.u (fun _ h => h)) (by omega) (by decide) (fun ao389 gb390 cp391 w392 A393 u394 gegb390 => ?_)
   have zu394 := u394.size
   have lt_gb390 := A393.lt
   refine go ?_
   refine x_l fun bk396 w397 ebk396 sbk396 B398 u399 => ?_
   refine go ?_
   have D401 := ((((hout.keep u350 (fun _ h => h)).keep u387 (fun _ h => h)).keep u394 (fun hb => show ¬ ((gx = bk384 ∧ bk384 ≤ gx)) by first | omega | assumption)).keep u399 (fun _ h => h))
   refine t_append (z := .agg #[.slice none 0 0]) (bytes := 24) (k := 1) (base := w335.heap.size) (⟨(nth rows k).xs, ao389, gb390, 0, cp391⟩ : HC) underlying36 (by kernel_rfl) rfl (by decide) (fun _ => rfl) (by intro x; simp [encHC, Value.oneCell']) rfl rfl rfl rfl D401 B398 (by omega) (by omega) (by decide) (fun ao402 gb403 cp404 w405 A406 u407 gegb403 lngb403 => ?_)
   have zu407 := u407.size
   have lt_gb403 := A406.lt
   refine go ?_
   refine x_s fun w409 sw409 B411 u410 => ?_
   refine go ?_
   have D413 := (A406.keep u410 (fun hb => show ¬ (gb403 = bk315) by first | omega | assumption))
   have D414 := (((A393.keep u399 (fun _ h => h)).keep u407 (fun hb => show ¬ ((gb390 = gx ∧ w335.heap.size ≤ gb390)) by first | omega | assumption)).keep u410 (fun hb => show ¬ (gb390 = bk315) by first | omega | assumption))
   have uR := (((((((Upd.refl (fun i => (i = gx ∧ w335.heap.size ≤ i) ∨ i = bk315) w342).nx u350).nx u387).next u394 (fun i hi (h : (i = bk384 ∧ bk384 ≤ i)) => show (i = gx ∧ w335.heap.size ≤ i) ∨ i = bk315 by omega)).nx u399).next u407 (fun i hi (h : (i = gx ∧ w335.heap.size ≤ i)) => show (i = gx ∧ w335.heap.size ≤ i) ∨ i = bk315 by omega)).next u410 (fun i hi (h : i = bk315) => show (i = gx ∧ w335.heap.size ≤ i) ∨ i = bk315 by omega))
   have hpA := D414
   exact hK341 (k + 1) ao402 gb403 cp404 (out ++ [(⟨(nth rows k).xs, ao389, gb390, 0, cp391⟩ : HC)]) ⟨B411, (by omega), D413, (by rw [List.map_append, hom, take_nth (by omega), List.map_append]; rfl), (fun h hh => by
     rcases List.mem_append.1 hh with q | q
     · exact (hoc h q).upd uR (fun hb cs hB h9 => h9.elim (hout0.notBlk hB (by decide)) (fun e9 => by omega))
     · rw [List.mem_singleton.1 q]; exact ⟨⟨_, by omega, hpA⟩, rfl⟩)⟩ (hu := ((((((u343.nx u350).nx u387).next u394 (fun i hi (h : (i = bk384 ∧ bk384 ≤ i)) => show i = bk315 ∨ w335.heap.size ≤ i by first | omega | assumption)).nx u399).next u407 (fun i hi (h : (i = gx ∧ w335.heap.size ≤ i)) => show i = bk315 ∨ w335.heap.size ≤ i by first | omega | assumption)).next u410 (fun i hi (h : i = bk315) => show i = bk315 ∨ w335.heap.size ≤ i by first | omega | assumption)))
  refine go ?_
  refine t_copy (enc := encOpt) (z := .agg #[.int .i64 0, .int .i64 0, .int .i64 0, .int .i64 0, .int .i64 0, .int .i64 0]) (bytes := 48) (k := 6) (ys := (nth rows k).xs) underlying45 (by kernel_rfl) rfl (by decide) (fun _ => rfl) (by intro x; simp [encOpt, Value.oneCell']) rfl rfl rfl rfl B386 ((hM (nth rows k) (nth_mem (by omega))).1.keep E388.u (fun _ h => h)) (by omega) (by decide) (fun ao415 gb416 cp417 w418 A419 u420 gegb416 => ?_)
  have zu420 := u420.size
  have lt_gb416 := A419.lt
  refine go ?_
  refine s_or ?_ ?_
  ·
   refine go ?_
   refine x_l fun bk422 w423 ebk422 sbk422 B424 u425 => ?_
   refine go ?_
   have D427 := ((((hout.keep u350 (fun _ h => h)).keep u387 (fun _ h => h)).keep u420 (fun hb => show ¬ ((gx = bk384 ∧ bk384 ≤ gx)) by first | omega | assumption)).keep u425 (fun _ h => h))
   refine t_append (z := .agg #[.slice none 0 0]) (bytes := 24) (k := 1) (base := w335.heap.size) (⟨(nth rows k).xs, ao415, gb416, 0, cp417⟩ : HC) underlying36 (by kernel_rfl) rfl (by decide) (fun _ => rfl) (by intro x; simp [encHC, Value.oneCell']) rfl rfl rfl rfl D427 B424 (by omega) (by omega) (by decide) (fun ao428 gb429 cp430 w431 A432 u433 gegb429 lngb429 => ?_)
   have zu433 := u433.size
   have lt_gb429 := A432.lt
   refine go ?_
   refine x_s fun w435 sw435 B437 u436 => ?_
   refine go ?_
   have D439 := (A432.keep u436 (fun hb => show ¬ (gb429 = bk315) by first | omega | assumption))
   have D440 := (((A419.keep u425 (fun _ h => h)).keep u433 (fun hb => show ¬ ((gb416 = gx ∧ w335.heap.size ≤ gb416)) by first | omega | assumption)).keep u436 (fun hb => show ¬ (gb416 = bk315) by first | omega | assumption))
   have uR := (((((((Upd.refl (fun i => (i = gx ∧ w335.heap.size ≤ i) ∨ i = bk315) w342).nx u350).nx u387).next u420 (fun i hi (h : (i = bk384 ∧ bk384 ≤ i)) => show (i = gx ∧ w335.heap.size ≤ i) ∨ i = bk315 by omega)).nx u425).next u433 (fun i hi (h : (i = gx ∧ w335.heap.size ≤ i)) => show (i = gx ∧ w335.heap.size ≤ i) ∨ i = bk315 by omega)).next u436 (fun i hi (h : i = bk315) => show (i = gx ∧ w335.heap.size ≤ i) ∨ i = bk315 by omega))
   have hpA := D440
   exact hK341 (k + 1) ao428 gb429 cp430 (out ++ [(⟨(nth rows k).xs, ao415, gb416, 0, cp417⟩ : HC)]) ⟨B437, (by omega), D439, (by rw [List.map_append, hom, take_nth (by omega), List.map_append]; rfl), (fun h hh => by
     rcases List.mem_append.1 hh with q | q
     · exact (hoc h q).upd uR (fun hb cs hB h9 => h9.elim (hout0.notBlk hB (by decide)) (fun e9 => by omega))
     · rw [List.mem_singleton.1 q]; exact ⟨⟨_, by omega, hpA⟩, rfl⟩)⟩ (hu := ((((((u343.nx u350).nx u387).next u420 (fun i hi (h : (i = bk384 ∧ bk384 ≤ i)) => show i = bk315 ∨ w335.heap.size ≤ i by first | omega | assumption)).nx u425).next u433 (fun i hi (h : (i = gx ∧ w335.heap.size ≤ i)) => show i = bk315 ∨ w335.heap.size ≤ i by first | omega | assumption)).next u436 (fun i hi (h : i = bk315) => show i = bk315 ∨ w335.heap.size ≤ i by first | omega | assumption)))
  refine go ?_
  refine x_l fun bk441 w442 ebk441 sbk441 B443 u444 => ?_
  refine go ?_
  have D446 := ((((hout.keep u350 (fun _ h => h)).keep u387 (fun _ h => h)).keep u420 (fun hb => show ¬ ((gx = bk384 ∧ bk384 ≤ gx)) by first | omega | assumption)).keep u444 (fun _ h => h))
  refine t_append (z := .agg #[.slice none 0 0]) (bytes := 24) (k := 1) (base := w335.heap.size) (⟨(nth rows k).xs, ao415, gb416, 0, cp417⟩ : HC) underlying36 (by kernel_rfl) rfl (by decide) (fun _ => rfl) (by intro x; simp [encHC, Value.oneCell']) rfl rfl rfl rfl D446 B443 (by omega) (by omega) (by decide) (fun ao447 gb448 cp449 w450 A451 u452 gegb448 lngb448 => ?_)
  have zu452 := u452.size
  have lt_gb448 := A451.lt
  refine go ?_
  refine x_s fun w454 sw454 B456 u455 => ?_
  refine go ?_
  have D458 := (A451.keep u455 (fun hb => show ¬ (gb448 = bk315) by first | omega | assumption))
  have D459 := (((A419.keep u444 (fun _ h => h)).keep u452 (fun hb => show ¬ ((gb416 = gx ∧ w335.heap.size ≤ gb416)) by first | omega | assumption)).keep u455 (fun hb => show ¬ (gb416 = bk315) by first | omega | assumption))
  have uR := (((((((Upd.refl (fun i => (i = gx ∧ w335.heap.size ≤ i) ∨ i = bk315) w342).nx u350).nx u387).next u420 (fun i hi (h : (i = bk384 ∧ bk384 ≤ i)) => show (i = gx ∧ w335.heap.size ≤ i) ∨ i = bk315 by omega)).nx u444).next u452 (fun i hi (h : (i = gx ∧ w335.heap.size ≤ i)) => show (i = gx ∧ w335.heap.size ≤ i) ∨ i = bk315 by omega)).next u455 (fun i hi (h : i = bk315) => show (i = gx ∧ w335.heap.size ≤ i) ∨ i = bk315 by omega))
  have hpA := D459
  exact hK341 (k + 1) ao447 gb448 cp449 (out ++ [(⟨(nth rows k).xs, ao415, gb416, 0, cp417⟩ : HC)]) ⟨B456, (by omega), D458, (by rw [List.map_append, hom, take_nth (by omega), List.map_append]; rfl), (fun h hh => by
    rcases List.mem_append.1 hh with q | q
    · exact (hoc h q).upd uR (fun hb cs hB h9 => h9.elim (hout0.notBlk hB (by decide)) (fun e9 => by omega))
    · rw [List.mem_singleton.1 q]; exact ⟨⟨_, by omega, hpA⟩, rfl⟩)⟩ (hu := ((((((u343.nx u350).nx u387).next u420 (fun i hi (h : (i = bk384 ∧ bk384 ≤ i)) => show i = bk315 ∨ w335.heap.size ≤ i by first | omega | assumption)).nx u444).next u452 (fun i hi (h : (i = gx ∧ w335.heap.size ≤ i)) => show i = bk315 ∨ w335.heap.size ≤ i by first | omega | assumption)).next u455 (fun i hi (h : i = bk315) => show i = bk315 ∨ w335.heap.size ≤ i by first | omega | assumption)))
 refine go ?_
 refine x_s fun w461 sw461 B463 u462 => ?_
 refine go ?_
 refine f_ret1 (v := .agg #[.int .i64 (n : Int), .slice ao325 cs.length cp327, .slice ao out.length co]) results13 ⟨_, _, rfl, run_loadVarN (vs := [.int .i64 (n : Int), .slice ao325 cs.length cp327, .slice ao out.length co]) isAgg38 sizeOf38 rfl (B463.at.sub 0 3)⟩ ?_
 have uR2 := ((Upd.refl (fun i => i = bk7) w342).next u462 (fun i hi (h : i = bk7) => show i = bk7 by omega))
 have D465 := (hout.keep u462 (fun hb => show ¬ (gx = bk7) by first | omega | assumption))
 have D466 := (((A329.keep u336 (fun hb => show ¬ (gb326 = bk315) by first | omega | assumption)).keep u343 (fun hb => show ¬ (gb326 = bk315 ∨ w335.heap.size ≤ gb326) by first | omega | assumption)).keep u462 (fun hb => show ¬ (gb326 = bk7) by first | omega | assumption))
 have hme : out.map HC.xs = rows.map HC.xs := by rw [hom, List.take_of_length_le (by omega)]
 obtain ⟨g9, ha9⟩ := Acc.lower (base' := w0.heap.size) D465 (by omega) hpos
 obtain ⟨g8, ha8⟩ := Acc.lower (base' := w0.heap.size) D466 (by omega) hpos
 exact ⟨⟨_, g8, _, ao, g9, co, out, rfl, ha8, ha9, hme, fun h hh => ((hoc h hh).upd uR2 (fun hb _ _ (e9 : h.b = bk7) => by omega)).low (by omega)⟩, u_d⟩

end Go.Proofs.YtagmkfbbhfaceaaGreatDoor
