/-
  Part 16 of the proof: contracts and plain laws. Conditions: none.
-/
import Derived.Test.YtagmkfbbhfaceaaGreatDoorBK15
namespace Go.Proofs.YtagmkfbbhfaceaaGreatDoor
open Go Go.RowKit Go.Proofs.Tryz
set_option maxRecDepth 10000

theorem okBd_run {xs : List Lnk} {n : Nat} (hx : ∀ l ∈ xs, okLnk n l) (hxl : xs.length ≤ 100) : ∀ k j s, s.m.length = n → okBd j s → okBd (j + k) (runW xs k s)
  | 0, j, s, _, h => h
  | k + 1, j, s, hl, h => by
    have h1 := okBd_pas hx hxl hl h
    rw [runW]
    split
    · intro x hm
      have := h1 x hm
      omega
    · have := okBd_run hx hxl k (j + 1) _ (by rw [(pasW_len xs s _).1]; exact hl) h1
      rwa [show j + 1 + k = j + (k + 1) by omega] at this
theorem rch_bd {xs : List Lnk} {n : Nat} (hx : ∀ l ∈ xs, okLnk n l) (hxl : xs.length ≤ 100) (hn : n ≤ 30) (fr : Int) {v : Nat} (hv : v < n) : -10000000000 ≤ nth (rchW n xs fr).m v ∧ nth (rchW n xs fr).m v ≤ 1099511627776 := by
  have hl : (rchW n xs fr).m.length = n := (runW_len xs n _).1.trans (ini_len n fr)
  have := okBd_run hx hxl n 0 (iniW n fr) (ini_len n fr) okBd_ini _ (nth_mem (xs := (rchW n xs fr).m) (i := v) (by omega))
  unfold far9 at this
  omega
theorem rch_len (n : Nat) (xs : List Lnk) (fr : Int) : (rchW n xs fr).m.length = n := (runW_len xs n _).1.trans (ini_len n fr)
theorem opn_len {zz n : Nat} {cs : List Bcl} {rows : List HC} (h : n ≤ 20) (h2 : cs.length ≤ 8) (h3 : rows.length ≤ 20) : (opnW n cs (osR zz rows)).length ≤ 100 := by
  rw [opn_eq, List.length_append, List.length_append, opE_len, opC_len, opO_len (Nat.le_refl _)]; omega
/-- When the event can have happened. -/
def tmV (n m : Nat) (xs : List Lnk) (i : Nat) : Bcl := ⟨-nth (rchW (1 + n + m) xs (1 + (i : Int))).m 0, nth (rchW (1 + n + m) xs 0).m (1 + (i : Int)).toNat⟩
theorem fits_c (pg n : Nat) (ac : Option Addr) (m cc : Nat) (ar : Option Addr) (q cr : Nat) (ao : Option Addr) (ga oa ca : Nat) (xs : List Lnk) (w0 : World) (hgb : Blk w0 pg 188 [.int .i64 (n : Int), .slice ac m cc, .slice ar q cr, .slice ao xs.length ca]) (hxs : Sl encLnk 3 w0 ao ga oa xs) (hx : ∀ l ∈ xs, okLnk (1 + n + m) l) (hxl : xs.length ≤ 100) (hn : n ≤ 20 ∧ m ≤ 8) :
    CallsV Tryz.prog 43 [.pointer (some ⟨pg, 0, none⟩)] w0 (fun v w' => v = .bool (decide ((rchW (1 + n + m) xs (-1)).ring < 0)) ∧ Ext w0 w') := by
 have hpgl := hgb.lt
 refine f_n func43 ?_
 refine go ?_
 refine x_c func81 rfl rfl (reach_c pg n ac m cc ar q cr ao ga oa ca xs (-1) _ hgb hxs hx hxl hn (by omega)) ?_
 rintro _ w5 ⟨⟨alr3, glr3, clr3, abr3, gbr3, cbr3, rfl, hlr3, hbr3⟩, u6⟩ zu6
 have ger3 := hlr3.ge (by rw [rch_len]; omega)
 have lt_glr3 := hlr3.lt
 have lt_gbr3 := hbr3.lt
 refine go ?_
 refine f_1 results43 ?_
 exact ⟨rfl, u_d⟩
theorem apart_c (pg n : Nat) (ac : Option Addr) (m cc : Nat) (ar : Option Addr) (q cr : Nat) (ao : Option Addr) (ga oa ca : Nat) (xs : List Lnk) (f t : Int) (w0 : World) (hgb : Blk w0 pg 188 [.int .i64 (n : Int), .slice ac m cc, .slice ar q cr, .slice ao xs.length ca]) (hxs : Sl encLnk 3 w0 ao ga oa xs) (hx : ∀ l ∈ xs, okLnk (1 + n + m) l) (hxl : xs.length ≤ 100) (hn : n ≤ 20 ∧ m ≤ 8) (hf : 0 ≤ f ∧ f < (((1 + n + m) : Nat) : Int)) (ht : 0 ≤ t ∧ t < (((1 + n + m) : Nat) : Int)) :
    CallsV Tryz.prog 44 [.pointer (some ⟨pg, 0, none⟩), .int .i64 f, .int .i64 t] w0 (fun v w' => v = .agg #[.int .i64 (-nth (rchW (1 + n + m) xs t).m f.toNat), .int .i64 (nth (rchW (1 + n + m) xs f).m t.toNat)] ∧ Ext w0 w') := by
 have hpgl := hgb.lt
 have hb1 := rch_bd hx hxl (by omega) t (v := f.toNat) (by omega)
 have hb2 := rch_bd hx hxl (by omega) f (v := t.toNat) (by omega)
 have hr1 := rch_len (1 + n + m) xs f
 have hr2 := rch_len (1 + n + m) xs t
 refine f_n func44 ?_
 refine go ?_
 refine x_n fun bk2 w3 ebk2 sbk2 B4 u5 => ?_
 have E6 := Sc.mk ((Upd.refl (fun _ => False) w0).nx u5)
 refine go ?_
 have B8 := (hgb.kx u5)
 refine x_c func81 rfl rfl (reach_c pg n ac m cc ar q cr ao ga oa ca xs f _ B8 (hxs.keep E6.u (fun _ h => h)) hx hxl hn (by omega)) ?_
 rintro _ w11 ⟨⟨alr9, glr9, clr9, abr9, gbr9, cbr9, rfl, hlr9, hbr9⟩, u12⟩ zu12
 have ger9 := hlr9.ge (by rw [rch_len]; omega)
 have lt_glr9 := hlr9.lt
 have lt_gbr9 := hbr9.lt
 refine go ?_
 have B16 := (B8.kx u12)
 refine x_c func81 rfl rfl (reach_c pg n ac m cc ar q cr ao ga oa ca xs t _ B16 (hxs.keep (E6.u.nx u12) (fun _ h => h)) hx hxl hn (by omega)) ?_
 rintro _ w19 ⟨⟨alr17, glr17, clr17, abr17, gbr17, cbr17, rfl, hlr17, hbr17⟩, u20⟩ zu20
 have ger17 := hlr17.ge (by rw [rch_len]; omega)
 have lt_glr17 := hlr17.lt
 have lt_gbr17 := hbr17.lt
 refine go ?_
 refine c_drawnM follows (fun i => i = bk2) (OTl [0, 2, 4, 6, 8, 10, 12, 14, 16, 18, 21]) (by kernel_rfl) fun w24 u25 => ?_
 have zu25 := u25.size
 refine go ?_
 have D27 := (hlr17.keep u25 (fun _ h => h))
 refine y_i f.toNat (D27.sl (fun _ => rfl)) (fun _ => ?_) (hj := (by omega))
 refine go ?_
 refine y_neg rfl rfl rfl (by omega) ?_
 refine go ?_
 have D29 := ((hlr9.keep u20 (fun _ h => h)).keep u25 (fun _ h => h))
 refine y_i t.toNat (D29.sl (fun _ => rfl)) (fun _ => ?_) (hj := (by omega))
 refine go ?_
 refine x_s fun w31 sw31 B33 u32 => ?_
 refine go ?_
 refine f_ret1 (v := .agg #[.int .i64 (-(nth ((rchW (1 + n + m) xs t).m) f.toNat)), .int .i64 (nth ((rchW (1 + n + m) xs f).m) t.toNat)]) results44 ⟨_, _, rfl, run_loadVarN (vs := [.int .i64 (-(nth ((rchW (1 + n + m) xs t).m) f.toNat)), .int .i64 (nth ((rchW (1 + n + m) xs f).m) t.toNat)]) isAgg34 sizeOf34 rfl (B33.at.sub 0 2)⟩ ?_
 exact ⟨rfl, u_d⟩
set_option maxHeartbeats 4000000 in
theorem Between_c (zz n : Nat) (cs : List Bcl) (ac : Option Addr) (bc oc cc : Nat) (rows : List HC) (ar : Option Addr) (br or_ cr : Nat) (co : List Int) (aco : Option Addr) (bco oco cco : Nat) (f t : Int) (w0 : World) (hc : CaM w0 zz n cs ac bc oc rows ar br or_) (hco : Sl encI 1 w0 aco bco oco co) (hcz : ∀ x ∈ co, x = (zz : Int)) (hck : co.length = rows.length) (hx : ∀ l ∈ (opnW n cs (osR zz rows)), okLnk (1 + n + cs.length) l) (hpos : 0 < w0.heap.size) (hfit : (rchW (1 + n + cs.length) (opnW n cs (osR zz rows)) (-1)).ring < 0) (hf : 0 ≤ f ∧ f ≤ (n : Int) - 1) (ht : 0 ≤ t ∧ t ≤ (n : Int) - 1) :
    CallsV Tryz.prog 14 [.agg #[.int .i64 (n : Int), .slice ac cs.length cc, .slice ar rows.length cr], .slice aco co.length cco, .int .i64 f, .int .i64 t] w0 (fun v w' => v = .tuple #[.agg #[.int .i64 (-nth (rchW (1 + n + cs.length) (opnW n cs (osR zz rows)) (1 + t)).m (1 + f).toNat), .int .i64 (nth (rchW (1 + n + cs.length) (opnW n cs (osR zz rows)) (1 + f)).m (1 + t).toNat)], .int .i64 0] ∧ Ext w0 w') := by
 have hC := hc.c
 have hR := hc.r
 have hM := hc.m
 have hn1 := hc.hn
 have hcl := hc.hc
 have hrl := hc.hr
 have hcb := hc.hb
 have hob := hc.ho
 have hxl := opn_len (zz := zz) (cs := cs) (rows := rows) hn1.2 hcl hrl
 have hn : n ≤ 20 ∧ cs.length ≤ 8 := ⟨hn1.2, hcl⟩
 refine f_n func14 ?_
 refine go ?_
 refine x_b fun bk2 w3 ebk2 sbk2 B4 u5 => ?_
 refine x_n fun bk7 w8 ebk7 sbk7 B9 u10 => ?_
 have E11 := Sc.mk (((Upd.refl (fun _ => False) w0).nx u5).nx u10)
 refine go ?_
 refine x_c func41 rfl rfl (wCourse_c zz n cs ac bc oc cc rows ar br or_ cr co aco bco oco cco _ (hc.ext E11.u) (hco.keep E11.u (fun _ h => h)) hcz hck) ?_
 rintro _ w15 ⟨rfl, u16⟩ zu16
 refine go ?_
 refine x_l fun bk22 w23 ebk22 sbk22 B24 u25 => ?_
 refine x_c func46 rfl rfl (ww2_t 0 ((n : Int) - 1) f t _ _ _ B24 (by omega)) ?_
 rintro _ w28 ⟨rfl, u29⟩ zu29
 have E31 := Sc.mk (((E11.u.nx u16).nx u25).nx u29)
 refine go ?_
 refine x_c func42 rfl rfl (wopen_c zz n cs ac bc oc cc rows ar br or_ cr co aco bco oco cco _ (hc.ext E31.u) (hco.keep E31.u (fun _ h => h)) hcz hck (by omega)) ?_
 rintro _ w35 ⟨⟨gbo33, aoo33, gao33, cao33, bso33, rfl, hio33, hjo33, hko33, hgo33, hao33⟩, u36⟩ zu36
 have lwo33 := hgo33.lt
 have lt_gao33 := hao33.lt
 refine go ?_
 refine x_c func43 rfl rfl (fits_c gbo33 n ac cs.length cc ar rows.length cr aoo33 gao33 0 cao33 (opnW n cs (osR zz rows)) _ hgo33 (hao33.sl (fun _ => rfl)) hx hxl hn) ?_
 rintro _ w42 ⟨rfl, u43⟩ zu43
 refine st1 ?_
 refine t_same 33 (v := .bool false) rfl (congrArg Value.bool (decide_eq_false (fun h9 => h9 hfit))) ?_
 refine go ?_
 refine x_c func45 rfl rfl (event_c _ f _ (by omega)) ?_
 rintro _ w48 ⟨rfl, u49⟩ zu49
 refine go ?_
 refine x_c func45 rfl rfl (event_c _ t _ (by omega)) ?_
 rintro _ w53 ⟨rfl, u54⟩ zu54
 have B57 := (((hgo33.kx u43).kx u49).kx u54)
 have D58 := (((hao33.keep u43 (fun _ h => h)).keep u49 (fun _ h => h)).keep u54 (fun _ h => h))
 refine x_c func44 rfl rfl (apart_c gbo33 n ac cs.length cc ar rows.length cr aoo33 gao33 0 cao33 (opnW n cs (osR zz rows)) (1 + f) (1 + t) _ B57 (D58.sl (fun _ => rfl)) hx hxl hn (by omega) (by omega)) ?_
 rintro _ w60 ⟨rfl, u61⟩ zu61
 refine x_s fun w64 sw64 B66 u65 => ?_
 refine go ?_
 refine f_ret2 (v1 := .agg #[.int .i64 (-nth (rchW (1 + n + cs.length) (opnW n cs (osR zz rows)) (1 + t)).m (1 + f).toNat), .int .i64 (nth (rchW (1 + n + cs.length) (opnW n cs (osR zz rows)) (1 + f)).m (1 + t).toNat)]) (v2 := .int .i64 0) results14 ⟨_, _, rfl, run_loadVarN (vs := [.int .i64 (-nth (rchW (1 + n + cs.length) (opnW n cs (osR zz rows)) (1 + t)).m (1 + f).toNat), .int .i64 (nth (rchW (1 + n + cs.length) (opnW n cs (osR zz rows)) (1 + f)).m (1 + t).toNat)]) isAgg34 sizeOf34 rfl (B66.at.sub 0 2)⟩ rfl ?_
 exact ⟨rfl, u_d⟩
set_option maxHeartbeats 4000000 in
theorem Times_c (zz n : Nat) (cs : List Bcl) (ac : Option Addr) (bc oc cc : Nat) (rows : List HC) (ar : Option Addr) (br or_ cr : Nat) (co : List Int) (aco : Option Addr) (bco oco cco : Nat) (w0 : World) (hc : CaM w0 zz n cs ac bc oc rows ar br or_) (hco : Sl encI 1 w0 aco bco oco co) (hcz : ∀ x ∈ co, x = (zz : Int)) (hck : co.length = rows.length) (hx : ∀ l ∈ (opnW n cs (osR zz rows)), okLnk (1 + n + cs.length) l) (hpos : 0 < w0.heap.size) (hfit : (rchW (1 + n + cs.length) (opnW n cs (osR zz rows)) (-1)).ring < 0) :
    CallsV Tryz.prog 12 [.agg #[.int .i64 (n : Int), .slice ac cs.length cc, .slice ar rows.length cr], .slice aco co.length cco] w0 (fun v w' => (∃ al gl cl, v = .tuple #[.slice al (List.length ((List.range n).map (tmV n cs.length (opnW n cs (osR zz rows))))) cl, .int .i64 0] ∧ Acc encBcl 2 34 w0.heap.size w' al gl cl ((List.range n).map (tmV n cs.length (opnW n cs (osR zz rows))))) ∧ Ext w0 w') := by
 have hC := hc.c
 have hR := hc.r
 have hM := hc.m
 have hn1 := hc.hn
 have hcl := hc.hc
 have hrl := hc.hr
 have hcb := hc.hb
 have hob := hc.ho
 have hxl := opn_len (zz := zz) (cs := cs) (rows := rows) hn1.2 hcl hrl
 have hn : n ≤ 20 ∧ cs.length ≤ 8 := ⟨hn1.2, hcl⟩
 refine f_n func12 ?_
 refine go ?_
 refine x_b fun bk2 w3 ebk2 sbk2 B4 u5 => ?_
 have E6 := Sc.mk ((Upd.refl (fun _ => False) w0).nx u5)
 refine go ?_
 refine x_c func41 rfl rfl (wCourse_c zz n cs ac bc oc cc rows ar br or_ cr co aco bco oco cco _ (hc.ext E6.u) (hco.keep E6.u (fun _ h => h)) hcz hck) ?_
 rintro _ w10 ⟨rfl, u11⟩ zu11
 have E13 := Sc.mk (E6.u.nx u11)
 refine go ?_
 refine x_c func42 rfl rfl (wopen_c zz n cs ac bc oc cc rows ar br or_ cr co aco bco oco cco _ (hc.ext E13.u) (hco.keep E13.u (fun _ h => h)) hcz hck (by omega)) ?_
 rintro _ w18 ⟨⟨gbo16, aoo16, gao16, cao16, bso16, rfl, hio16, hjo16, hko16, hgo16, hao16⟩, u19⟩ zu19
 have lwo16 := hgo16.lt
 have lt_gao16 := hao16.lt
 refine go ?_
 refine x_c func43 rfl rfl (fits_c gbo16 n ac cs.length cc ar rows.length cr aoo16 gao16 0 cao16 (opnW n cs (osR zz rows)) _ hgo16 (hao16.sl (fun _ => rfl)) hx hxl hn) ?_
 rintro _ w25 ⟨rfl, u26⟩ zu26
 refine st1 ?_
 refine t_same 20 (v := .bool false) rfl (congrArg Value.bool (decide_eq_false (fun h9 => h9 hfit))) ?_
 refine go ?_
 refine x_l4 (fun i => w25.heap.size ≤ i) [7, 22] (fun (k : Nat) (al : Option Addr) (gl : Nat) (cl : Nat) => [(4, .slice al (((List.range k).map (tmV n cs.length (opnW n cs (osR zz rows)))).length) cl), (23, .int .i64 (k : Int))]) (fun k al gl cl w => (k ≤ n) ∧ (Acc encBcl 2 34 w25.heap.size w al gl cl ((List.range k).map (tmV n cs.length (opnW n cs (osR zz rows)))))) (fun k al gl cl => n - k) 0 none 0 0 ⟨(Nat.zero_le _), (Acc.nil encBcl 2 34 w25.heap.size _ (by omega) (Nat.le_refl _))⟩ ?_
 rintro k al gl cl w32 ⟨hk, hAl⟩ u33 zu33 K31 hK31
 have lt_gl := hAl.lt
 have hll : ((List.range k).map (tmV n cs.length (opnW n cs (osR zz rows)))).length = k := by rw [List.length_map, List.length_range]
 refine go ?_
 refine q_p (fun g24 => ?_) fun g24 => ?_
 ·
  refine go ?_
  refine x_c func45 rfl rfl (event_c _ (k : Int) _ (by omega)) ?_
  rintro _ w40 ⟨rfl, u41⟩ zu41
  have B44 := (((hgo16.kx u26).keep u33 (show ¬ (w25.heap.size ≤ gbo16) by first | omega | assumption)).kx u41)
  have D45 := (((hao16.keep u26 (fun _ h => h)).keep u33 (fun hb => show ¬ (w25.heap.size ≤ gao16) by first | omega | assumption)).keep u41 (fun _ h => h))
  refine x_c func44 rfl rfl (apart_c gbo16 n ac cs.length cc ar rows.length cr aoo16 gao16 0 cao16 (opnW n cs (osR zz rows)) 0 (1 + (k : Int)) _ B44 (D45.sl (fun _ => rfl)) hx hxl hn (by omega) (by omega)) ?_
  rintro _ w47 ⟨rfl, u48⟩ zu48
  refine x_l fun bk51 w52 ebk51 sbk51 B53 u54 => ?_
  have D56 := (((hAl.keep u41 (fun _ h => h)).keep u48 (fun _ h => h)).keep u54 (fun _ h => h))
  refine t_append (z := .agg #[.int .i64 0, .int .i64 0]) (bytes := 16) (k := 2) (base := w25.heap.size) (tmV n cs.length (opnW n cs (osR zz rows)) k) underlying35 (by kernel_rfl) rfl (by decide) (fun _ => rfl) (by intro x; simp [encBcl, Value.oneCell']) rfl rfl rfl rfl D56 B53 (by omega) (by omega) (by decide) (fun ao57 gb58 cp59 w60 A61 u62 gegb58 lngb58 => ?_)
  have zu62 := u62.size
  have lt_gb58 := A61.lt
  refine go ?_
  exact hK31 (k + 1) ao57 gb58 cp59 ⟨(by omega), (by rw [rg8_snoc]; exact A61)⟩ (hs := by exact ⟨(by first | (rw [rg8_snoc]; rfl) | rfl), rfl, rfl, rfl, trivial⟩) (hu := ((((u33.nx u41).nx u48).nx u54).next u62 (fun i hi (h : (i = gl ∧ w25.heap.size ≤ i)) => show w25.heap.size ≤ i by first | omega | assumption)))
 refine go ?_
 refine f_ret2 (v1 := .slice al (((List.range k).map (tmV n cs.length (opnW n cs (osR zz rows)))).length) cl) (v2 := .int .i64 0) results12 rfl rfl ?_
 obtain rfl : k = n := by omega
 obtain ⟨g9, ha9⟩ := Acc.lower (base' := w0.heap.size) hAl (by omega) hpos
 exact ⟨⟨al, g9, cl, rfl, ha9⟩, u_d⟩

end Go.Proofs.YtagmkfbbhfaceaaGreatDoor
