/-
  Part 11 of the proof: contracts and plain laws. Conditions: none.
-/
import Derived.Test.YtbcedieodibehaaGreatAK10
namespace Go.Proofs.YtbcedieodibehaaGreat
open Go Go.RowKit Go.Proofs.Tryz
set_option maxRecDepth 10000

theorem rep9 {α : Type} (a : α) (k : Nat) : List.replicate (k + 1) a = List.replicate k a ++ [a] := List.replicate_succ'
theorem rg8_snoc {α : Type} (f : Nat → α) (k : Nat) : (List.range (k + 1)).map f = (List.range k).map f ++ [f k] := by rw [List.range_succ, List.map_append]; rfl
/-- Values after some passes. -/
def okBd (j : Nat) (s : Rch) : Prop := ∀ x ∈ s.m, -(200000000 * (j : Int)) ≤ x ∧ x ≤ far9
theorem okBd_ini {n : Nat} {fr : Int} : okBd 0 (iniW n fr) := fun x hx => by
  obtain ⟨v, _, rfl⟩ := List.mem_map.1 hx
  unfold iniV far9
  split <;> omega
theorem okBd_pas {xs : List Lnk} {n j : Nat} (hx : ∀ l ∈ xs, okLnk n l) (hxl : xs.length ≤ 100) {s : Rch} (hl : s.m.length = n) (h : okBd j s) : okBd (j + 1) (pasW xs s xs.length) := fun x hm => by
  have := pasW_bd hx hl h xs.length (Nat.le_refl _) x hm
  omega
theorem okBd_k {xs : List Lnk} {n j : Nat} (hx : ∀ l ∈ xs, okLnk n l) {s : Rch} (hl : s.m.length = n) (h : okBd j s) (hj : j ≤ 30) {k : Nat} (hk : k ≤ xs.length) (hxl : xs.length ≤ 100) {v : Nat} (hv : v < n) : -10000000000 ≤ nth (pasW xs s k).m v ∧ nth (pasW xs s k).m v ≤ 1099511627776 := by
  have := pasW_bd hx hl h k hk _ (nth_mem (xs := (pasW xs s k).m) (i := v) (by rw [(pasW_len xs s k).1]; omega))
  unfold far9 at this
  omega
set_option maxHeartbeats 4000000 in
theorem reach_c (pg n : Nat) (ac : Option Addr) (m cc : Nat) (ar : Option Addr) (q cr : Nat) (ao : Option Addr) (ga oa ca : Nat) (xs : List Lnk) (fr : Int) (w0 : World) (hgb : Blk w0 pg 108 [.int .i64 (n : Int), .slice ac m cc, .slice ar q cr, .slice ao xs.length ca]) (hxs : Sl encLnk 3 w0 ao ga oa xs) (hx : ∀ l ∈ xs, okLnk (1 + n + m) l) (hxl : xs.length ≤ 100) (hn : n ≤ 20 ∧ m ≤ 8) (hfr : -1 ≤ fr ∧ fr ≤ 1000) :
    CallsV Tryz.prog 43 [.pointer (some ⟨pg, 0, none⟩), .int .i64 fr] w0 (fun v w' => (∃ al gl cl ab gb cb, v = .tuple #[.slice al (List.length (rchW (1 + n + m) xs fr).m) cl, .slice ab (List.length (rchW (1 + n + m) xs fr).b) cb, .int .i64 (rchW (1 + n + m) xs fr).ring] ∧ Acc encI 1 3 w0.heap.size w' al gl cl (rchW (1 + n + m) xs fr).m ∧ Acc encI 1 3 w0.heap.size w' ab gb cb (rchW (1 + n + m) xs fr).b) ∧ Ext w0 w') := by
 have hpgl := hgb.lt
 refine f_n func43 ?_
 refine go ?_
 refine x_c func58 rfl rfl (many_c pg (n : Int) ac m cc ar q cr ao xs.length ca _ hgb (by omega)) ?_
 rintro _ w5 ⟨rfl, u6⟩ zu6
 refine go ?_
 refine q_loop (γ := Nat × Option Addr × Nat × Nat × Option Addr × Nat × Nat) (fun gg => [(0, .pointer (some ⟨pg, 0, none⟩)), (1, .int .i64 fr), (4, .slice gg.2.1 (((List.range gg.1).map (iniV fr)).length) gg.2.2.2.1), (5, .slice gg.2.2.2.2.1 ((List.replicate gg.1 (-1 : Int)).length) gg.2.2.2.2.2.2), (6, .int .i64 0), (13, .int .i64 (1 + (n : Int) + (m : Int))), (14, .int .i64 (gg.1 : Int))]) (fun gg w => Upd (fun i => w0.heap.size ≤ i) w5 w ∧ (gg.1 ≤ (1 + n + m)) ∧ (Acc encI 1 3 w0.heap.size w gg.2.1 gg.2.2.1 gg.2.2.2.1 ((List.range gg.1).map (iniV fr))) ∧ (Acc encI 1 3 w0.heap.size w gg.2.2.2.2.1 gg.2.2.2.2.2.1 gg.2.2.2.2.2.2 (List.replicate gg.1 (-1 : Int))) ∧ (w0.heap.size ≤ gg.2.2.1 → gg.2.2.1 ≠ gg.2.2.2.2.2.1)) (fun gg => (1 + n + m) - gg.1) (0, none, 0, 0, none, 0, 0) ⟨rfl, rfl, rfl, rfl, rfl, rfl, rfl, trivial⟩ ⟨Upd.refl _ _, (Nat.zero_le _), (Acc.nil encI 1 3 w0.heap.size _ (by omega) (by omega)), (Acc.nil encI 1 3 w0.heap.size _ (by omega) (by omega)), (fun h => by have h9 : w0.heap.size ≤ 0 := h; omega)⟩ ?_
 intro gg w10 hW K9 hK9
 obtain ⟨k, al, gl, cl, ab, gb, cb⟩ := gg
 change WC _ _ _ _ _ _ [(0, .pointer (some ⟨pg, 0, none⟩)), (1, .int .i64 fr), (4, .slice al (((List.range k).map (iniV fr)).length) cl), (5, .slice ab ((List.replicate k (-1 : Int)).length) cb), (6, .int .i64 0), (13, .int .i64 (1 + (n : Int) + (m : Int))), (14, .int .i64 (k : Int))] _
 change Upd (fun i => w0.heap.size ≤ i) w5 w10 ∧ (k ≤ (1 + n + m)) ∧ (Acc encI 1 3 w0.heap.size w10 al gl cl ((List.range k).map (iniV fr))) ∧ (Acc encI 1 3 w0.heap.size w10 ab gb cb (List.replicate k (-1 : Int))) ∧ (w0.heap.size ≤ gl → gl ≠ gb) at hW
 obtain ⟨u11, I12, I13, I14, I15⟩ := hW
 have zu11 := u11.size
 have hk := I12; clear I12
 have hAl := I13; clear I13
 have hAb := I14; clear I14
 have hne := I15; clear I15
 have lt_gl := hAl.lt
 have lt_gb := hAb.lt
 have hll : ((List.range k).map (iniV fr)).length = k := by rw [List.length_map, List.length_range]
 have hbl : (List.replicate k (-1 : Int)).length = k := List.length_replicate
 refine go ?_
 refine q_p (fun g15 => ?_) fun g15 => ?_
 ·
  iterate 15 refine st1 ?_
  refine x_k1 (fun _ => False) [0, 1, 4, 5, 6, 13, 14] (fun (_x : Unit) => [(8, .int .i64 (iniV fr k))]) (fun _x w => True) (fun K26 hK26 => ?_) ?_
  ·
   refine go ?_
   refine t_splitp 20 rfl (fun g20 => ?_) (fun g20 => ?_)
   ·
    refine go ?_
    exact hK26 () trivial (hs := by exact ⟨(congrArg (fun z => some (Value.int .i64 z)) (by unfold iniV; first | (rw [if_pos (by omega)]) | (rw [if_neg (by omega)]; rfl))), rfl, rfl, rfl, rfl, rfl, rfl, rfl, trivial⟩)
   refine go ?_
   refine q_p (fun g23 => ?_) fun g23 => ?_
   ·
    refine go ?_
    exact hK26 () trivial (hs := by exact ⟨(congrArg (fun z => some (Value.int .i64 z)) (by unfold iniV; first | (rw [if_pos (by omega)]) | (rw [if_neg (by omega)]; rfl))), rfl, rfl, rfl, rfl, rfl, rfl, rfl, trivial⟩)
   refine go ?_
   exact hK26 () trivial (hs := by exact ⟨(congrArg (fun z => some (Value.int .i64 z)) (by unfold iniV; first | (rw [if_pos (by omega)]) | (rw [if_neg (by omega)]; rfl))), rfl, rfl, rfl, rfl, rfl, rfl, rfl, trivial⟩)
  rintro _x w27 _ u28 zu28
  refine go ?_
  refine x_l fun bk31 w32 ebk31 sbk31 B33 u34 => ?_
  have D36 := ((hAl.keep u28 (fun _ h => h)).keep u34 (fun _ h => h))
  refine t_append (z := .int .i64 0) (bytes := 8) (k := 1) (base := w0.heap.size) (iniV fr k) underlying47 (by kernel_rfl) rfl (by decide) (fun _ => rfl) (by intro x; simp [encI, Value.oneCell']) rfl rfl rfl rfl D36 B33 (by omega) (by omega) (by decide) (fun ao37 gb38 cp39 w40 A41 u42 gegb38 lngb38 => ?_)
  have zu42 := u42.size
  have lt_gb38 := A41.lt
  refine go ?_
  refine x_l fun bk44 w45 ebk44 sbk44 B46 u47 => ?_
  have D49 := ((((hAb.keep u28 (fun _ h => h)).keep u34 (fun _ h => h)).keep u42 (fun hb => show ¬ ((gb = gl ∧ w0.heap.size ≤ gb)) by first | omega | assumption)).keep u47 (fun _ h => h))
  refine t_append (z := .int .i64 0) (bytes := 8) (k := 1) (base := w0.heap.size) (-1) underlying47 (by kernel_rfl) rfl (by decide) (fun _ => rfl) (by intro x; simp [encI, Value.oneCell']) rfl rfl rfl rfl D49 B46 (by omega) (by omega) (by decide) (fun ao50 gb51 cp52 w53 A54 u55 gegb51 lngb51 => ?_)
  have zu55 := u55.size
  have lt_gb51 := A54.lt
  refine go ?_
  have D57 := ((A41.keep u47 (fun _ h => h)).keep u55 (fun hb => show ¬ ((gb38 = gb ∧ w0.heap.size ≤ gb38)) by first | omega | assumption))
  exact hK9 (k + 1, ao37, gb38, cp39, ao50, gb51, cp52) _ _ (by show (1 + n + m) - (k + 1) < (1 + n + m) - k; omega) ⟨rfl, rfl, (by first | (rw [rg8_snoc]; rfl) | rfl), (by first | (rw [rep9]; rfl) | rfl), rfl, rfl, rfl, trivial⟩ ⟨(((((u11.nx u28).nx u34).next u42 (fun i hi (h : (i = gl ∧ w0.heap.size ≤ i)) => show w0.heap.size ≤ i by first | omega | assumption)).nx u47).next u55 (fun i hi (h : (i = gb ∧ w0.heap.size ≤ i)) => show w0.heap.size ≤ i by first | omega | assumption)), (by omega), (by rw [rg8_snoc]; exact D57), (by rw [rep9]; exact A54), (fun h => by have h9 : w0.heap.size ≤ gb38 := h; show gb38 ≠ gb51; omega)⟩
 have hkn : k = (1 + n + m) := by omega
 subst hkn
 have hil : (iniW (1 + n + m) fr).m.length = (1 + n + m) := hll
 have hib : (iniW (1 + n + m) fr).b.length = (1 + n + m) := hbl
 have hgl9 := hAl.ge (by rw [hll]; omega)
 have hgb9 := hAb.ge (by rw [hbl]; omega)
 refine go ?_
 have B60 := ((hgb.kx u6).keep u11 (show ¬ (w0.heap.size ≤ pg) by first | omega | assumption))
 refine x_c func58 rfl rfl (many_c pg (n : Int) ac m cc ar q cr ao xs.length ca _ B60 (by omega)) ?_
 rintro _ w62 ⟨rfl, u63⟩ zu63
 refine go ?_
 have D66 := (hAl.keep u63 (fun _ h => h))
 have D67 := (hAb.keep u63 (fun _ h => h))
 refine x_l2 (fun i => i = gl ∨ i = gb) [0, 33] (fun (j : Nat) (s : Rch) => [(4, .slice al s.m.length cl), (5, .slice ab s.b.length cb), (6, .int .i64 s.ring), (34, .int .i64 (j : Int))]) (fun j s w => (j ≤ (1 + n + m)) ∧ (s.m.length = (1 + n + m) ∧ s.b.length = (1 + n + m)) ∧ (Acc encI 1 3 w0.heap.size w al gl cl s.m) ∧ (Acc encI 1 3 w0.heap.size w ab gb cb s.b) ∧ (rchW (1 + n + m) xs fr = runW xs ((1 + n + m) - j) s) ∧ (okBd j s)) (fun j s => (1 + n + m) - j) 0 (iniW (1 + n + m) fr) ⟨(Nat.zero_le _), ⟨hil, hib⟩, D66, D67, rfl, okBd_ini⟩ ?_
 rintro j s w69 ⟨hj, hlen, hAl, hAb, hrun, hbd⟩ u70 zu70 K68 hK68
 have lt_gl := hAl.lt
 have lt_gb := hAb.lt
 refine go ?_
 refine q_p (fun g35 => ?_) fun g35 => ?_
 ·
  obtain ⟨hl1, hl2⟩ := hlen
  refine go ?_
  refine x_l1 (fun i => i = gl ∨ i = gb) [0, 33, 34, 39, 40] (fun (k : Nat) => [(4, .slice al ((pasW xs s k).m.length) cl), (5, .slice ab ((pasW xs s k).b.length) cb), (6, .int .i64 ((pasW xs s k).ring)), (41, .int .i64 (k : Int))]) (fun k w => (k ≤ xs.length) ∧ (Acc encI 1 3 w0.heap.size w al gl cl (pasW xs s k).m) ∧ (Acc encI 1 3 w0.heap.size w ab gb cb (pasW xs s k).b)) (fun k => xs.length - k) 0 ⟨(Nat.zero_le _), hAl, hAb⟩ ?_
  rintro k w79 ⟨hk, hAl, hAb⟩ u80 zu80 K78 hK78
  have lt_gl := hAl.lt
  have lt_gb := hAb.lt
  have hpl := pasW_len xs s k
  refine go ?_
  refine q_p (fun g42 => ?_) fun g42 => ?_
  ·
   have hxk := hx _ (nth_mem (xs := xs) (i := k) (by omega))
   unfold okLnk at hxk
   obtain ⟨hp1, hp2⟩ := hpl
   have hb1 := okBd_k hx hl1 hbd (by omega) hk hxl (v := (nth xs k).f.toNat) (by omega)
   have hb2 := okBd_k hx hl1 hbd (by omega) hk hxl (v := (nth xs k).t.toNat) (by omega)
   refine go ?_
   refine g_i k (hxs.keep ((((((Upd.refl (fun _ => False) w0).nx u6).next u11 (fun i hi (h : w0.heap.size ≤ i) => show False by first | omega | assumption)).nx u63).next u70 (fun i hi h => by omega)).next u80 (fun i hi h => by omega)) (fun _ h => h)) (fun _ => ?_)
   refine go ?_
   refine x_n fun bk87 w88 ebk87 sbk87 B89 u90 => ?_
   refine go ?_
   refine x_s fun w92 sw92 B94 u93 => ?_
   refine go ?_
   refine c_drawnM follows (fun _ => False) (OTl [0, 2, 4, 6, 8, 10, 12, 14, 16]) (by kernel_rfl) fun w97 u98 => ?_
   have zu98 := u98.size
   refine go ?_
   have D100 := (((hAl.keep u90 (fun _ h => h)).keep u93 (fun hb => show ¬ (gl = bk87) by first | omega | assumption)).keep u98 (fun _ h => h))
   refine y_i ((nth xs k).f.toNat) (D100.sl (fun _ => rfl)) (fun _ => ?_) (hj := (by omega))
   refine go ?_
   refine g_i ((nth xs k).f.toNat) (D100.sl (fun _ => rfl)) (fun _ => ?_) (hj := (by omega))
   refine go ?_
   refine t_splitp 60 rfl (fun g60 => ?_) (fun g60 => ?_)
   ·
    refine go ?_
    refine g_i ((nth xs k).t.toNat) (D100.sl (fun _ => rfl)) (fun _ => ?_) (hj := (by omega))
    refine go ?_
    refine q_p (fun g68 => ?_) fun g68 => ?_
    ·
     refine c_drawnM follows (fun i => i = gl ∨ i = gb) (OTl [0, 2, 4, 6, 8, 10, 12, 14, 16, 18, 20, 23, 24, 27, 28]) (by kernel_rfl) fun w105 u106 => ?_
     have zu106 := u106.size
     refine go ?_
     have D108 := (D100.keep u106 (fun _ h => h))
     refine y_i ((nth xs k).t.toNat) (D108.sl (fun _ => rfl)) (fun _ => ?_) (hj := (by omega))
     refine go ?_
     refine t_storeA (vs := [.int .i64 ((nth ((pasW xs s k).m) ((nth xs k).f.toNat)) + ((nth xs k).m))]) (j := (nth xs k).t.toNat) (o' := 0) (k := 1) ((nth ((pasW xs s k).m) ((nth xs k).f.toNat)) + ((nth xs k).m)) (fun _ => rfl) sizeOf3 rfl rfl (by omega) rfl D108 (by first | omega | (simp only [List.length_set]; omega)) rfl rfl (by decide) (by simp [Value.oneCell']) rfl (fun w110 R112 u111 => ?_)
     have zu111 := u111.size
     refine go ?_
     have D114 := ((((hAb.keep u90 (fun _ h => h)).keep u93 (fun hb => show ¬ (gb = bk87) by first | omega | assumption)).keep u98 (fun _ h => h)).keep u106 (fun _ h => h))
     refine y_i ((nth xs k).t.toNat) (D114.sl (fun _ => rfl)) (fun _ => ?_) (hj := (by omega))
     refine go ?_
     have D116 := (((((hAb.keep u90 (fun _ h => h)).keep u93 (fun hb => show ¬ (gb = bk87) by first | omega | assumption)).keep u98 (fun _ h => h)).keep u106 (fun _ h => h)).keep u111 (fun hb => show ¬ (gb = gl) by first | omega | assumption))
     refine t_storeA (vs := [.int .i64 (k : Int)]) (j := (nth xs k).t.toNat) (o' := 0) (k := 1) (k : Int) (fun _ => rfl) sizeOf3 rfl rfl (by omega) rfl D116 (by first | omega | (simp only [List.length_set]; omega)) rfl rfl (by decide) (by simp [Value.oneCell']) rfl (fun w117 R119 u118 => ?_)
     have zu118 := u118.size
     refine go ?_
     have hst : pasW xs s (k + 1) = ⟨(((pasW xs s k).m).set (nth xs k).t.toNat ((nth ((pasW xs s k).m) ((nth xs k).f.toNat)) + ((nth xs k).m))), (((pasW xs s k).b).set (nth xs k).t.toNat (k : Int)), (nth xs k).t⟩ := if_pos ⟨g60, g68⟩
     have D121 := (R112.keep u118 (fun hb => show ¬ (gl = gb) by first | omega | assumption))
     exact hK78 (k + 1) ⟨(by omega), (by rw [hst]; exact D121), (by rw [hst]; exact R119)⟩ (hs := by exact ⟨(by rw [hst]; first | rfl | (rw [List.length_set]; rfl)), (by rw [hst]; first | rfl | (rw [List.length_set]; rfl)), (by rw [hst]; first | rfl | (rw [List.length_set]; rfl)), rfl, rfl, rfl, rfl, rfl, rfl, trivial⟩)
    refine go ?_
    have hst : pasW xs s (k + 1) = (pasW xs s k) := if_neg (fun h9 => g68 h9.2)
    have D122 := (((hAb.keep u90 (fun _ h => h)).keep u93 (fun hb => show ¬ (gb = bk87) by first | omega | assumption)).keep u98 (fun _ h => h))
    exact hK78 (k + 1) ⟨(by omega), (by rw [hst]; exact D100), (by rw [hst]; exact D122)⟩ (hs := by exact ⟨(by rw [hst]; first | rfl | (rw [List.length_set]; rfl)), (by rw [hst]; first | rfl | (rw [List.length_set]; rfl)), (by rw [hst]; first | rfl | (rw [List.length_set]; rfl)), rfl, rfl, rfl, rfl, rfl, rfl, trivial⟩)
   refine go ?_
   have hst : pasW xs s (k + 1) = (pasW xs s k) := if_neg (fun h9 => g60 h9.1)
   have D123 := (((hAb.keep u90 (fun _ h => h)).keep u93 (fun hb => show ¬ (gb = bk87) by first | omega | assumption)).keep u98 (fun _ h => h))
   exact hK78 (k + 1) ⟨(by omega), (by rw [hst]; exact D100), (by rw [hst]; exact D123)⟩ (hs := by exact ⟨(by rw [hst]; first | rfl | (rw [List.length_set]; rfl)), (by rw [hst]; first | rfl | (rw [List.length_set]; rfl)), (by rw [hst]; first | rfl | (rw [List.length_set]; rfl)), rfl, rfl, rfl, rfl, rfl, rfl, trivial⟩)
  refine go ?_
  refine q_p (fun g83 => ?_) fun g83 => ?_
  ·
   refine go ?_
   refine f_ret3 (v1 := .slice al ((pasW xs s k).m.length) cl) (v2 := .slice ab ((pasW xs s k).b.length) cb) (v3 := .int .i64 ((pasW xs s k).ring)) results43 rfl rfl rfl ?_
   have hke : xs.length = k := by omega
   have hR9 : rchW (1 + n + m) xs fr = (pasW xs s k) := by rw [hrun, show (1 + n + m) - j = ((1 + n + m) - (j + 1)) + 1 by omega, runW, if_pos (by rw [hke]; exact g83), hke]
   rw [hR9]
   exact ⟨⟨al, gl, cl, ab, gb, cb, rfl, hAl, hAb⟩, u_d⟩
  refine go ?_
  have hke : xs.length = k := by omega
  have hpl9 := pasW_len xs s xs.length
  have hrn9 : runW xs ((1 + n + m) - j) s = runW xs ((1 + n + m) - (j + 1)) (pasW xs s xs.length) := by rw [show (1 + n + m) - j = ((1 + n + m) - (j + 1)) + 1 by omega, runW, if_neg (by rw [hke]; exact g83)]
  exact hK68 (j + 1) (pasW xs s xs.length) ⟨(by omega), ⟨by rw [hpl9.1]; exact hl1, by rw [hpl9.2]; exact hl2⟩, (by rw [hke]; exact hAl), (by rw [hke]; exact hAb), (hrun.trans hrn9), (okBd_pas hx hxl hl1 hbd)⟩ (hs := by exact ⟨(by rw [hke]; rfl), (by rw [hke]; rfl), (by rw [hke]; rfl), rfl, rfl, rfl, trivial⟩)
 refine go ?_
 refine f_ret3 (v1 := .slice al s.m.length cl) (v2 := .slice ab s.b.length cb) (v3 := .int .i64 s.ring) results43 rfl rfl rfl ?_
 have hR9 : rchW (1 + n + m) xs fr = s := by rw [hrun, show (1 + n + m) - j = 0 by omega]; rfl
 rw [hR9]
 exact ⟨⟨al, gl, cl, ab, gb, cb, rfl, hAl, hAb⟩, u_d⟩

end Go.Proofs.YtbcedieodibehaaGreat
namespace Go.Proofs.YtbcedieodibehaaGreat
open Go Go.RowKit Go.Proofs.Tryz
set_option maxRecDepth 10000

theorem okBd_run {xs : List Lnk} {n : Nat} (hx : ∀ l ∈ xs, okLnk n l) (hxl : xs.length ≤ 100) : ∀ k j s, s.m.length = n → okBd j s → okBd (j + k) (runW xs k s)
  | 0, j, s, _, h => h
  | k + 1, j, s, hl, h => by
    have h1 := okBd_pas hx hxl hl h
    rw [runW]
    split
    · intro x hm
      have := h1 x hm
      omega
    · have := okBd_run hx hxl k (j + 1) _ (by rw [(pasW_len xs s _).1]; exact hl) h1
      rwa [show j + 1 + k = j + (k + 1) by omega] at this
theorem rch_bd {xs : List Lnk} {n : Nat} (hx : ∀ l ∈ xs, okLnk n l) (hxl : xs.length ≤ 100) (hn : n ≤ 30) (fr : Int) {v : Nat} (hv : v < n) : -10000000000 ≤ nth (rchW n xs fr).m v ∧ nth (rchW n xs fr).m v ≤ 1099511627776 := by
  have hl : (rchW n xs fr).m.length = n := (runW_len xs n _).1.trans (ini_len n fr)
  have := okBd_run hx hxl n 0 (iniW n fr) (ini_len n fr) okBd_ini _ (nth_mem (xs := (rchW n xs fr).m) (i := v) (by omega))
  unfold far9 at this
  omega
theorem rch_len (n : Nat) (xs : List Lnk) (fr : Int) : (rchW n xs fr).m.length = n := (runW_len xs n _).1.trans (ini_len n fr)
theorem opn_len {n : Nat} {cs : List Bcl} {rows : List HC} (h : n ≤ 20) (h2 : cs.length ≤ 8) (h3 : rows.length ≤ 20) : (opnW n cs (osR rows)).length ≤ 100 := by
  rw [opn_eq, List.length_append, List.length_append, opE_len, opC_len, opO_len (Nat.le_refl _)]; omega
/-- When the event can have happened. -/
def tmV (n m : Nat) (xs : List Lnk) (i : Nat) : Bcl := ⟨-nth (rchW (1 + n + m) xs (1 + (i : Int))).m 0, nth (rchW (1 + n + m) xs 0).m (1 + (i : Int)).toNat⟩
theorem fits_c (pg n : Nat) (ac : Option Addr) (m cc : Nat) (ar : Option Addr) (q cr : Nat) (ao : Option Addr) (ga oa ca : Nat) (xs : List Lnk) (w0 : World) (hgb : Blk w0 pg 108 [.int .i64 (n : Int), .slice ac m cc, .slice ar q cr, .slice ao xs.length ca]) (hxs : Sl encLnk 3 w0 ao ga oa xs) (hx : ∀ l ∈ xs, okLnk (1 + n + m) l) (hxl : xs.length ≤ 100) (hn : n ≤ 20 ∧ m ≤ 8) :
    CallsV Tryz.prog 24 [.pointer (some ⟨pg, 0, none⟩)] w0 (fun v w' => v = .bool (decide ((rchW (1 + n + m) xs (-1)).ring < 0)) ∧ Ext w0 w') := by
 have hpgl := hgb.lt
 refine f_n func24 ?_
 refine go ?_
 refine x_c func43 rfl rfl (reach_c pg n ac m cc ar q cr ao ga oa ca xs (-1) _ hgb hxs hx hxl hn (by omega)) ?_
 rintro _ w5 ⟨⟨alr3, glr3, clr3, abr3, gbr3, cbr3, rfl, hlr3, hbr3⟩, u6⟩ zu6
 have ger3 := hlr3.ge (by rw [rch_len]; omega)
 have lt_glr3 := hlr3.lt
 have lt_gbr3 := hbr3.lt
 refine go ?_
 refine f_1 results24 ?_
 exact ⟨rfl, u_d⟩

theorem apart_c (pg n : Nat) (ac : Option Addr) (m cc : Nat) (ar : Option Addr) (q cr : Nat) (ao : Option Addr) (ga oa ca : Nat) (xs : List Lnk) (f t : Int) (w0 : World) (hgb : Blk w0 pg 108 [.int .i64 (n : Int), .slice ac m cc, .slice ar q cr, .slice ao xs.length ca]) (hxs : Sl encLnk 3 w0 ao ga oa xs) (hx : ∀ l ∈ xs, okLnk (1 + n + m) l) (hxl : xs.length ≤ 100) (hn : n ≤ 20 ∧ m ≤ 8) (hf : 0 ≤ f ∧ f < (((1 + n + m) : Nat) : Int)) (ht : 0 ≤ t ∧ t < (((1 + n + m) : Nat) : Int)) :
    CallsV Tryz.prog 25 [.pointer (some ⟨pg, 0, none⟩), .int .i64 f, .int .i64 t] w0 (fun v w' => v = .agg #[.int .i64 (-nth (rchW (1 + n + m) xs t).m f.toNat), .int .i64 (nth (rchW (1 + n + m) xs f).m t.toNat)] ∧ Ext w0 w') := by
 have hpgl := hgb.lt
 have hb1 := rch_bd hx hxl (by omega) t (v := f.toNat) (by omega)
 have hb2 := rch_bd hx hxl (by omega) f (v := t.toNat) (by omega)
 have hr1 := rch_len (1 + n + m) xs f
 have hr2 := rch_len (1 + n + m) xs t
 refine f_n func25 ?_
 refine go ?_
 refine x_n fun bk2 w3 ebk2 sbk2 B4 u5 => ?_
 have E6 := Sc.mk ((Upd.refl (fun _ => False) w0).nx u5)
 refine go ?_
 have B8 := (hgb.kx u5)
 refine x_c func43 rfl rfl (reach_c pg n ac m cc ar q cr ao ga oa ca xs f _ B8 (hxs.keep E6.u (fun _ h => h)) hx hxl hn (by omega)) ?_
 rintro _ w11 ⟨⟨alr9, glr9, clr9, abr9, gbr9, cbr9, rfl, hlr9, hbr9⟩, u12⟩ zu12
 have ger9 := hlr9.ge (by rw [rch_len]; omega)
 have lt_glr9 := hlr9.lt
 have lt_gbr9 := hbr9.lt
 refine go ?_
 have B16 := (B8.kx u12)
 refine x_c func43 rfl rfl (reach_c pg n ac m cc ar q cr ao ga oa ca xs t _ B16 (hxs.keep (E6.u.nx u12) (fun _ h => h)) hx hxl hn (by omega)) ?_
 rintro _ w19 ⟨⟨alr17, glr17, clr17, abr17, gbr17, cbr17, rfl, hlr17, hbr17⟩, u20⟩ zu20
 have ger17 := hlr17.ge (by rw [rch_len]; omega)
 have lt_glr17 := hlr17.lt
 have lt_gbr17 := hbr17.lt
 refine go ?_
 refine c_drawnM follows (fun i => i = bk2) (OTl [0, 2, 4, 6, 8, 10, 12, 14, 16, 18, 21]) (by kernel_rfl) fun w24 u25 => ?_
 have zu25 := u25.size
 refine go ?_
 have D27 := (hlr17.keep u25 (fun _ h => h))
 refine y_i f.toNat (D27.sl (fun _ => rfl)) (fun _ => ?_) (hj := (by omega))
 refine go ?_
 refine y_neg rfl rfl rfl (by omega) ?_
 refine go ?_
 have D29 := ((hlr9.keep u20 (fun _ h => h)).keep u25 (fun _ h => h))
 refine y_i t.toNat (D29.sl (fun _ => rfl)) (fun _ => ?_) (hj := (by omega))
 refine go ?_
 refine x_s fun w31 sw31 B33 u32 => ?_
 refine go ?_
 refine f_ret1 (v := .agg #[.int .i64 (-(nth ((rchW (1 + n + m) xs t).m) f.toNat)), .int .i64 (nth ((rchW (1 + n + m) xs f).m) t.toNat)]) results25 ⟨_, _, rfl, run_loadVarN (vs := [.int .i64 (-(nth ((rchW (1 + n + m) xs t).m) f.toNat)), .int .i64 (nth ((rchW (1 + n + m) xs f).m) t.toNat)]) isAgg23 sizeOf23 rfl (B33.at.sub 0 2)⟩ ?_
 exact ⟨rfl, u_d⟩

theorem Possible_c (n : Nat) (cs : List Bcl) (ac : Option Addr) (bc oc cc : Nat) (rows : List HC) (ar : Option Addr) (br or_ cr : Nat) (co : List Int) (aco : Option Addr) (bco oco cco : Nat) (w0 : World) (hc : CaM w0 n cs ac bc oc rows ar br or_) (hco : Sl encI 1 w0 aco bco oco co) (hcz : ∀ x ∈ co, x = 0) (hck : co.length = rows.length) (hx : ∀ l ∈ (opnW n cs (osR rows)), okLnk (1 + n + cs.length) l) (hpos : 0 < w0.heap.size) :
    CallsV Tryz.prog 10 [.agg #[.int .i64 (n : Int), .slice ac cs.length cc, .slice ar rows.length cr], .slice aco co.length cco] w0 (fun v w' => v = .tuple #[.bool (decide ((rchW (1 + n + cs.length) (opnW n cs (osR rows)) (-1)).ring < 0)), .int .i64 0] ∧ Ext w0 w') := by
 have hC := hc.c
 have hR := hc.r
 have hM := hc.m
 have hn1 := hc.hn
 have hcl := hc.hc
 have hrl := hc.hr
 have hcb := hc.hb
 have hob := hc.ho
 have hxl := opn_len (cs := cs) (rows := rows) hn1.2 hcl hrl
 have hn : n ≤ 20 ∧ cs.length ≤ 8 := ⟨hn1.2, hcl⟩
 refine f_n func10 ?_
 refine go ?_
 refine x_b fun bk2 w3 ebk2 sbk2 B4 u5 => ?_
 have E6 := Sc.mk ((Upd.refl (fun _ => False) w0).nx u5)
 refine go ?_
 refine x_c func22 rfl rfl (wCourse_c n cs ac bc oc cc rows ar br or_ cr co aco bco oco cco _ (hc.ext E6.u) (hco.keep E6.u (fun _ h => h)) hcz hck) ?_
 rintro _ w10 ⟨rfl, u11⟩ zu11
 have E13 := Sc.mk (E6.u.nx u11)
 refine go ?_
 refine x_c func23 rfl rfl (wopen_c n cs ac bc oc cc rows ar br or_ cr co aco bco oco cco _ (hc.ext E13.u) (hco.keep E13.u (fun _ h => h)) hcz hck (by omega)) ?_
 rintro _ w18 ⟨⟨gbo16, aoo16, gao16, cao16, bso16, rfl, hio16, hjo16, hko16, hgo16, hao16⟩, u19⟩ zu19
 have lwo16 := hgo16.lt
 have lt_gao16 := hao16.lt
 refine x_c func24 rfl rfl (fits_c gbo16 n ac cs.length cc ar rows.length cr aoo16 gao16 0 cao16 (opnW n cs (osR rows)) _ hgo16 (hao16.sl (fun _ => rfl)) hx hxl hn) ?_
 rintro _ w23 ⟨rfl, u24⟩ zu24
 refine go ?_
 refine f_ret2 (v1 := .bool (decide ((rchW (1 + n + cs.length) (opnW n cs (osR rows)) (-1)).ring < 0))) (v2 := .int .i64 0) results10 rfl rfl ?_
 exact ⟨rfl, u_d⟩

theorem Between_c (n : Nat) (cs : List Bcl) (ac : Option Addr) (bc oc cc : Nat) (rows : List HC) (ar : Option Addr) (br or_ cr : Nat) (co : List Int) (aco : Option Addr) (bco oco cco : Nat) (f t : Int) (w0 : World) (hc : CaM w0 n cs ac bc oc rows ar br or_) (hco : Sl encI 1 w0 aco bco oco co) (hcz : ∀ x ∈ co, x = 0) (hck : co.length = rows.length) (hx : ∀ l ∈ (opnW n cs (osR rows)), okLnk (1 + n + cs.length) l) (hpos : 0 < w0.heap.size) (hfit : (rchW (1 + n + cs.length) (opnW n cs (osR rows)) (-1)).ring < 0) (hf : 0 ≤ f ∧ f ≤ (n : Int) - 1) (ht : 0 ≤ t ∧ t ≤ (n : Int) - 1) :
    CallsV Tryz.prog 9 [.agg #[.int .i64 (n : Int), .slice ac cs.length cc, .slice ar rows.length cr], .slice aco co.length cco, .int .i64 f, .int .i64 t] w0 (fun v w' => v = .tuple #[.agg #[.int .i64 (-nth (rchW (1 + n + cs.length) (opnW n cs (osR rows)) (1 + t)).m (1 + f).toNat), .int .i64 (nth (rchW (1 + n + cs.length) (opnW n cs (osR rows)) (1 + f)).m (1 + t).toNat)], .int .i64 0] ∧ Ext w0 w') := by
 have hC := hc.c
 have hR := hc.r
 have hM := hc.m
 have hn1 := hc.hn
 have hcl := hc.hc
 have hrl := hc.hr
 have hcb := hc.hb
 have hob := hc.ho
 have hxl := opn_len (cs := cs) (rows := rows) hn1.2 hcl hrl
 have hn : n ≤ 20 ∧ cs.length ≤ 8 := ⟨hn1.2, hcl⟩
 refine f_n func9 ?_
 refine go ?_
 refine x_b fun bk2 w3 ebk2 sbk2 B4 u5 => ?_
 refine x_n fun bk7 w8 ebk7 sbk7 B9 u10 => ?_
 have E11 := Sc.mk (((Upd.refl (fun _ => False) w0).nx u5).nx u10)
 refine go ?_
 refine x_c func22 rfl rfl (wCourse_c n cs ac bc oc cc rows ar br or_ cr co aco bco oco cco _ (hc.ext E11.u) (hco.keep E11.u (fun _ h => h)) hcz hck) ?_
 rintro _ w15 ⟨rfl, u16⟩ zu16
 refine go ?_
 refine x_l fun bk22 w23 ebk22 sbk22 B24 u25 => ?_
 refine x_c func27 rfl rfl (ww2_t 0 ((n : Int) - 1) f t _ _ _ B24 (by omega)) ?_
 rintro _ w28 ⟨rfl, u29⟩ zu29
 have E31 := Sc.mk (((E11.u.nx u16).nx u25).nx u29)
 refine go ?_
 refine x_c func23 rfl rfl (wopen_c n cs ac bc oc cc rows ar br or_ cr co aco bco oco cco _ (hc.ext E31.u) (hco.keep E31.u (fun _ h => h)) hcz hck (by omega)) ?_
 rintro _ w35 ⟨⟨gbo33, aoo33, gao33, cao33, bso33, rfl, hio33, hjo33, hko33, hgo33, hao33⟩, u36⟩ zu36
 have lwo33 := hgo33.lt
 have lt_gao33 := hao33.lt
 refine go ?_
 refine x_c func24 rfl rfl (fits_c gbo33 n ac cs.length cc ar rows.length cr aoo33 gao33 0 cao33 (opnW n cs (osR rows)) _ hgo33 (hao33.sl (fun _ => rfl)) hx hxl hn) ?_
 rintro _ w42 ⟨rfl, u43⟩ zu43
 refine st1 ?_
 refine t_same 33 (v := .bool false) rfl (congrArg Value.bool (decide_eq_false (fun h9 => h9 hfit))) ?_
 refine go ?_
 refine x_c func26 rfl rfl (event_c _ f _ (by omega)) ?_
 rintro _ w48 ⟨rfl, u49⟩ zu49
 refine go ?_
 refine x_c func26 rfl rfl (event_c _ t _ (by omega)) ?_
 rintro _ w53 ⟨rfl, u54⟩ zu54
 have B57 := (((hgo33.kx u43).kx u49).kx u54)
 have D58 := (((hao33.keep u43 (fun _ h => h)).keep u49 (fun _ h => h)).keep u54 (fun _ h => h))
 refine x_c func25 rfl rfl (apart_c gbo33 n ac cs.length cc ar rows.length cr aoo33 gao33 0 cao33 (opnW n cs (osR rows)) (1 + f) (1 + t) _ B57 (D58.sl (fun _ => rfl)) hx hxl hn (by omega) (by omega)) ?_
 rintro _ w60 ⟨rfl, u61⟩ zu61
 refine x_s fun w64 sw64 B66 u65 => ?_
 refine go ?_
 refine f_ret2 (v1 := .agg #[.int .i64 (-nth (rchW (1 + n + cs.length) (opnW n cs (osR rows)) (1 + t)).m (1 + f).toNat), .int .i64 (nth (rchW (1 + n + cs.length) (opnW n cs (osR rows)) (1 + f)).m (1 + t).toNat)]) (v2 := .int .i64 0) results9 ⟨_, _, rfl, run_loadVarN (vs := [.int .i64 (-nth (rchW (1 + n + cs.length) (opnW n cs (osR rows)) (1 + t)).m (1 + f).toNat), .int .i64 (nth (rchW (1 + n + cs.length) (opnW n cs (osR rows)) (1 + f)).m (1 + t).toNat)]) isAgg23 sizeOf23 rfl (B66.at.sub 0 2)⟩ rfl ?_
 exact ⟨rfl, u_d⟩

theorem Times_c (n : Nat) (cs : List Bcl) (ac : Option Addr) (bc oc cc : Nat) (rows : List HC) (ar : Option Addr) (br or_ cr : Nat) (co : List Int) (aco : Option Addr) (bco oco cco : Nat) (w0 : World) (hc : CaM w0 n cs ac bc oc rows ar br or_) (hco : Sl encI 1 w0 aco bco oco co) (hcz : ∀ x ∈ co, x = 0) (hck : co.length = rows.length) (hx : ∀ l ∈ (opnW n cs (osR rows)), okLnk (1 + n + cs.length) l) (hpos : 0 < w0.heap.size) (hfit : (rchW (1 + n + cs.length) (opnW n cs (osR rows)) (-1)).ring < 0) :
    CallsV Tryz.prog 7 [.agg #[.int .i64 (n : Int), .slice ac cs.length cc, .slice ar rows.length cr], .slice aco co.length cco] w0 (fun v w' => (∃ al gl cl, v = .tuple #[.slice al (List.length ((List.range n).map (tmV n cs.length (opnW n cs (osR rows))))) cl, .int .i64 0] ∧ Acc encBcl 2 23 w0.heap.size w' al gl cl ((List.range n).map (tmV n cs.length (opnW n cs (osR rows))))) ∧ Ext w0 w') := by
 have hC := hc.c
 have hR := hc.r
 have hM := hc.m
 have hn1 := hc.hn
 have hcl := hc.hc
 have hrl := hc.hr
 have hcb := hc.hb
 have hob := hc.ho
 have hxl := opn_len (cs := cs) (rows := rows) hn1.2 hcl hrl
 have hn : n ≤ 20 ∧ cs.length ≤ 8 := ⟨hn1.2, hcl⟩
 refine f_n func7 ?_
 refine go ?_
 refine x_b fun bk2 w3 ebk2 sbk2 B4 u5 => ?_
 have E6 := Sc.mk ((Upd.refl (fun _ => False) w0).nx u5)
 refine go ?_
 refine x_c func22 rfl rfl (wCourse_c n cs ac bc oc cc rows ar br or_ cr co aco bco oco cco _ (hc.ext E6.u) (hco.keep E6.u (fun _ h => h)) hcz hck) ?_
 rintro _ w10 ⟨rfl, u11⟩ zu11
 have E13 := Sc.mk (E6.u.nx u11)
 refine go ?_
 refine x_c func23 rfl rfl (wopen_c n cs ac bc oc cc rows ar br or_ cr co aco bco oco cco _ (hc.ext E13.u) (hco.keep E13.u (fun _ h => h)) hcz hck (by omega)) ?_
 rintro _ w18 ⟨⟨gbo16, aoo16, gao16, cao16, bso16, rfl, hio16, hjo16, hko16, hgo16, hao16⟩, u19⟩ zu19
 have lwo16 := hgo16.lt
 have lt_gao16 := hao16.lt
 refine go ?_
 refine x_c func24 rfl rfl (fits_c gbo16 n ac cs.length cc ar rows.length cr aoo16 gao16 0 cao16 (opnW n cs (osR rows)) _ hgo16 (hao16.sl (fun _ => rfl)) hx hxl hn) ?_
 rintro _ w25 ⟨rfl, u26⟩ zu26
 refine st1 ?_
 refine t_same 20 (v := .bool false) rfl (congrArg Value.bool (decide_eq_false (fun h9 => h9 hfit))) ?_
 refine go ?_
 refine x_l4 (fun i => w25.heap.size ≤ i) [7, 22] (fun (k : Nat) (al : Option Addr) (gl : Nat) (cl : Nat) => [(4, .slice al (((List.range k).map (tmV n cs.length (opnW n cs (osR rows)))).length) cl), (23, .int .i64 (k : Int))]) (fun k al gl cl w => (k ≤ n) ∧ (Acc encBcl 2 23 w25.heap.size w al gl cl ((List.range k).map (tmV n cs.length (opnW n cs (osR rows)))))) (fun k al gl cl => n - k) 0 none 0 0 ⟨(Nat.zero_le _), (Acc.nil encBcl 2 23 w25.heap.size _ (by omega) (Nat.le_refl _))⟩ ?_
 rintro k al gl cl w32 ⟨hk, hAl⟩ u33 zu33 K31 hK31
 have lt_gl := hAl.lt
 have hll : ((List.range k).map (tmV n cs.length (opnW n cs (osR rows)))).length = k := by rw [List.length_map, List.length_range]
 refine go ?_
 refine q_p (fun g24 => ?_) fun g24 => ?_
 ·
  refine go ?_
  refine x_c func26 rfl rfl (event_c _ (k : Int) _ (by omega)) ?_
  rintro _ w40 ⟨rfl, u41⟩ zu41
  have B44 := (((hgo16.kx u26).keep u33 (show ¬ (w25.heap.size ≤ gbo16) by first | omega | assumption)).kx u41)
  have D45 := (((hao16.keep u26 (fun _ h => h)).keep u33 (fun hb => show ¬ (w25.heap.size ≤ gao16) by first | omega | assumption)).keep u41 (fun _ h => h))
  refine x_c func25 rfl rfl (apart_c gbo16 n ac cs.length cc ar rows.length cr aoo16 gao16 0 cao16 (opnW n cs (osR rows)) 0 (1 + (k : Int)) _ B44 (D45.sl (fun _ => rfl)) hx hxl hn (by omega) (by omega)) ?_
  rintro _ w47 ⟨rfl, u48⟩ zu48
  refine x_l fun bk51 w52 ebk51 sbk51 B53 u54 => ?_
  have D56 := (((hAl.keep u41 (fun _ h => h)).keep u48 (fun _ h => h)).keep u54 (fun _ h => h))
  refine t_append (z := .agg #[.int .i64 0, .int .i64 0]) (bytes := 16) (k := 2) (base := w25.heap.size) (tmV n cs.length (opnW n cs (osR rows)) k) underlying33 (by kernel_rfl) rfl (by decide) (fun _ => rfl) (by intro x; simp [encBcl, Value.oneCell']) rfl rfl rfl rfl D56 B53 (by omega) (by omega) (by decide) (fun ao57 gb58 cp59 w60 A61 u62 gegb58 lngb58 => ?_)
  have zu62 := u62.size
  have lt_gb58 := A61.lt
  refine go ?_
  exact hK31 (k + 1) ao57 gb58 cp59 ⟨(by omega), (by rw [rg8_snoc]; exact A61)⟩ (hs := by exact ⟨(by first | (rw [rg8_snoc]; rfl) | rfl), rfl, rfl, rfl, trivial⟩) (hu := ((((u33.nx u41).nx u48).nx u54).next u62 (fun i hi (h : (i = gl ∧ w25.heap.size ≤ i)) => show w25.heap.size ≤ i by first | omega | assumption)))
 refine go ?_
 refine f_ret2 (v1 := .slice al (((List.range k).map (tmV n cs.length (opnW n cs (osR rows)))).length) cl) (v2 := .int .i64 0) results7 rfl rfl ?_
 obtain rfl : k = n := by omega
 obtain ⟨g9, ha9⟩ := Acc.lower (base' := w0.heap.size) hAl (by omega) hpos
 exact ⟨⟨al, g9, cl, rfl, ha9⟩, u_d⟩

end Go.Proofs.YtbcedieodibehaaGreat
