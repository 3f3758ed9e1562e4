/-
  For every truth. Conditions: none.
-/
import Derived.Test.YtagmodjadmecdaaA19
import Derived.Test.YtagmodjadmecdaaA21
namespace Go.Proofs.Ytagmodjadmecdaa
open Go Go.RowKit

/-- Times within the bounds of a duty, by small numbers. -/
def truS (ps : List Int) (d : Dty) (i : Nat) : Sp := if ps.length = 0 then lngS d else ⟨d.bl + nth ps (i % ps.length) % (d.bh - d.bl + 1), d.eh - nth ps ((i + 3) % ps.length) % (d.eh - d.el + 1)⟩
def timesW (F : Nat → Dty → Sp) (l : List Dty) (k : Nat) : List Sp := (List.range k).map fun i => F i (nth l i)
theorem timesW_succ (F : Nat → Dty → Sp) (l : List Dty) (k : Nat) : timesW F l (k + 1) = timesW F l k ++ [F k (nth l k)] := by unfold timesW; rw [List.range_succ, List.map_append]; rfl
theorem timesW_len (F : Nat → Dty → Sp) (l : List Dty) (k : Nat) : (timesW F l k).length = k := by unfold timesW; rw [List.length_map, List.length_range]
theorem timesW_map (f : Dty → Sp) {l : List Dty} : ∀ {k : Nat}, k ≤ l.length → timesW (fun _ d => f d) l k = (l.take k).map f
  | 0, _ => rfl
  | k + 1, h => by rw [timesW_succ, timesW_map f (by omega), take_nth (by omega), List.map_append]; rfl
def Tru (F : Nat → Dty → Sp) (l : List Dty) : Prop := ∀ i, i < l.length → InSp (F i (nth l i)) (lngS (nth l i)) ∧ InSp (shtS (nth l i)) (F i (nth l i))
theorem tru_lng {l : List Dty} (h : ∀ d ∈ l, okDty d = true) : Tru (fun _ d => lngS d) l := fun i hi => by
  have h1 := h _ (nth_mem hi); simp only [okDty, decide_eq_true_eq] at h1
  unfold InSp lngS shtS; simp only []; omega
theorem tru_sht {l : List Dty} (h : ∀ d ∈ l, okDty d = true) : Tru (fun _ d => shtS d) l := fun i hi => by
  have h1 := h _ (nth_mem hi); simp only [okDty, decide_eq_true_eq] at h1
  unfold InSp lngS shtS; simp only []; omega
theorem tru_tru {ps : List Int} {l : List Dty} (h : ∀ d ∈ l, okDty d = true) : Tru (fun i d => truS ps d i) l := fun i hi => by
  have h1 := h _ (nth_mem hi); simp only [okDty, decide_eq_true_eq] at h1
  show InSp (truS ps (nth l i) i) _ ∧ InSp _ (truS ps (nth l i) i)
  unfold truS
  split
  · exact tru_lng h i hi
  · have a1 := Int.emod_nonneg (nth ps (i % ps.length)) (show (nth l i).bh - (nth l i).bl + 1 ≠ 0 by omega)
    have a2 := Int.emod_lt_of_pos (nth ps (i % ps.length)) (show 0 < (nth l i).bh - (nth l i).bl + 1 by omega)
    have a3 := Int.emod_nonneg (nth ps ((i + 3) % ps.length)) (show (nth l i).eh - (nth l i).el + 1 ≠ 0 by omega)
    have a4 := Int.emod_lt_of_pos (nth ps ((i + 3) % ps.length)) (show 0 < (nth l i).eh - (nth l i).el + 1 by omega)
    unfold InSp lngS shtS; simp only []; omega
theorem tru_times {F : Nat → Dty → Sp} {l : List Dty} (h : Tru F l) (hl : ∀ d ∈ l, okDty d = true) {x : Sp} (hx : x ∈ timesW F l l.length) : ∃ d, d ∈ l ∧ OkSp x ∧ x.e ≤ d.eh := by
  obtain ⟨i, hi, rfl⟩ := List.mem_map.1 hx
  have hi' := List.mem_range.1 hi
  have h1 := (h i hi').1
  have h2 := lng_ok (hl _ (nth_mem hi'))
  refine ⟨nth l i, nth_mem hi', ?_, ?_⟩
  · unfold InSp at h1; unfold OkSp at h2 ⊢; unfold lngS at h1 h2; simp only [] at h1 h2; omega
  · unfold InSp lngS at h1; simp only [] at h1; omega
theorem truths {r : Rul} (hr : okRul r = true) {F : Nat → Dty → Sp} {l : List Dty} (hl : ∀ d ∈ l, okDty d = true) (h : Tru F l) : (brokP r (srtS (l.map lngS)) = 0 → brokP r (srtS (timesW F l l.length)) = 0) ∧ (brokP r (srtS (timesW F l l.length)) = 0 → brokP r (srtS (l.map shtS)) = 0) := by
  have e : ∀ f : Dty → Sp, l.map f = (List.range l.length).map fun i => f (nth l i) := fun f => by
    have := timesW_map f (Nat.le_refl l.length); rw [List.take_length] at this; exact this.symm
  constructor
  · intro hb
    have := brok_shrink hr (l := (List.range l.length).map fun i => (lngS (nth l i), F i (nth l i))) (fun p hp => by
      obtain ⟨i, hi, rfl⟩ := List.mem_map.1 hp
      have hi' := List.mem_range.1 hi
      exact ⟨lng_ok (hl _ (nth_mem hi')), (h i hi').1⟩) (by rw [List.map_map]; rw [e] at hb; exact hb)
    rw [List.map_map] at this; exact this
  · intro hb
    have := brok_shrink hr (l := (List.range l.length).map fun i => (F i (nth l i), shtS (nth l i))) (fun p hp => by
      obtain ⟨i, hi, rfl⟩ := List.mem_map.1 hp
      have hi' := List.mem_range.1 hi
      obtain ⟨d, hd, h1, _⟩ := tru_times h hl (x := F i (nth l i)) (List.mem_map.2 ⟨i, hi, rfl⟩)
      exact ⟨h1, (h i hi').2⟩) (by rw [List.map_map]; exact hb)
    rw [List.map_map] at this; rw [e]; exact this
theorem tru_cut {r : Rul} (hr : okRul r = true) {l : List Dty} (hl : ∀ d ∈ l, okDty d = true) {a : Nat} {rule : Int} (h : RestR r l (a : Int) rule) {out : List Sp} (ho : out = l.map lngS) (ha : a < l.length) : brokP r (srtS (out.take (a + 1))) ≠ 0 ∧ brokP r (srtS (out.take a)) = 0 := by
  subst ho
  rw [← List.map_take, ← List.map_take]
  refine ⟨fun hc => ?_, (rest_first hr hl h a (by omega)).2 (.inr (Int.le_refl _))⟩
  have := (rest_first hr hl h (a + 1) (by omega)).1 hc
  omega
theorem dsOf_end {xs : List U4} {m : Nat} (h : ∀ x ∈ xs, okU4 x) : ∀ d ∈ dsOf xs m, d.eh ≤ 607 := fun d hd => by
  obtain ⟨x, hx, rfl⟩ := dsOf_mem h hd; have := dOf_rng hx; omega

theorem own3 : Own Try.prog 3 := ⟨Try.f3, Try.func3, by kernel_rfl, by kernel_rfl⟩

set_option maxHeartbeats 2000000 in
theorem CrewTruths_c (u : U5) (xs : List U4) (ao : Option Addr) (b o cap : Nat) (ps : List Int) (ap : Option Addr) (bp op cp : Nat) (w0 : World) (hu : okU5 u) (hx : Sl encU4 4 w0 ao b o xs) (hxl : xs.length ≤ 9223372036854775807) (hxs : ∀ x ∈ xs, okU4 x) (hp : Sl encU8 1 w0 ap bp op ps) (hpl : ps.length ≤ 9223372036854775807) (hps : ∀ x ∈ ps, 0 ≤ x ∧ x ≤ 255) :
    CallsV Try.prog 3 [.agg #[.int .u8 u.a, .int .u8 u.b, .int .u8 u.c, .int .u8 u.d, .int .u8 u.e, .slice ao xs.length cap], .slice ap ps.length cp] w0 (fun v w' => v = .bool true ∧ Ext w0 w') := by
 have hr := smR_ok hu
 refine f_enter (N := 206) Try.func3 rfl rfl rfl (c_seq fun K1 hK1 => (c_region (t_box (cs := [.int .u8 u.a, .int .u8 u.b, .int .u8 u.c, .int .u8 u.d, .int .u8 u.e, .slice ao xs.length cap]) rfl rfl rfl rfl (fun bk2 w3 ebk2 sbk2 B4 u5 => ?_))))
 have zu5 := u5.size
 have E6 := (Upd.refl (fun _ => False) w0).nx u5
 refine t_assign rfl rfl rfl (t_nil' (hK1 _ _ (c_cut (γ := Nat × Nat × Option Addr × Nat × Nat × List Dty) (fun gg => [(1, .slice ap ps.length cp), (5, .pointer (some ⟨gg.2.1, 0, none⟩)), (6, .slice gg.2.2.1 gg.2.2.2.2.2.length gg.2.2.2.2.1)]) (fun gg w => Upd (fun _ => False) w3 w ∧ (Blk w gg.2.1 28 [.int .i64 ((smR u).rest), .int .i64 ((smR u).span), .int .i64 ((smR u).work), .int .i64 ((smR u).week), .int .i64 ((smR u).ww)]) ∧ (Acc encDty 4 40 gg.1 w gg.2.2.1 gg.2.2.2.1 gg.2.2.2.2.1 gg.2.2.2.2.2) ∧ (gg.2.2.2.2.2 = dsOf xs 6) ∧ (w3.heap.size ≤ gg.2.1 ∧ w3.heap.size ≤ gg.1)) (fun K8 hK8 => ?_) ?_)))
 ·
  refine c_drawnM follows (fun _ => False) (.look 0 (.look 2 (.act 1 (.act 3 (.act 4 (.act 5 (.look 6 .done) .stop) .stop) (.act 4 (.act 3 (.act 5 (.look 6 .done) .stop) .stop) .stop)) (.act 4 (.act 1 (.act 3 (.act 5 (.look 6 .done) .stop) .stop) .stop) .stop)))) (by kernel_rfl) fun w11 u12 => ?_
  have zu12 := u12.size
  have E13 := E6.nx u12
  have B14 := (B4.kx u12)
  refine y_loadN (vs := [.int .u8 u.a, .int .u8 u.b, .int .u8 u.c, .int .u8 u.d, .int .u8 u.e, .slice ao xs.length cap]) Try.isAgg25 Try.sizeOf25 rfl rfl rfl (B14.at.sub 0 6) rfl (fun h => h) (y_loadN (vs := [.int .u8 u.a, .int .u8 u.b, .int .u8 u.c, .int .u8 u.d, .int .u8 u.e, .slice ao xs.length cap]) Try.isAgg25 Try.sizeOf25 rfl rfl rfl (B14.at.sub 0 6) rfl (fun h => h) (s_or ?_ ?_))
  ·
   refine s_do (t_call own8 rfl rfl rfl rfl (small_c u _ _ _ _ hu) (fun v15 w16 r18 => ?_))
   obtain ⟨rfl, u17⟩ := r18
   have zu17 := u17.size
   have E19 := E13.nx u17
   refine s_next ((Upd.refl _ _).nx u17) (s_or ?_ ?_)
   ·
    refine s_do (t_call own9 rfl rfl rfl rfl (smallD_v u xs ao b o cap 6 _ (hx.keep E19 (fun _ h => h)) hxl hxs (by decide) (by omega)) (fun v21 w22 r24 => ?_))
    obtain ⟨⟨aoD20, gD20, cD20, l, hle, rfl, haD20⟩, u23⟩ := r24
    have zu23 := u23.size
    have hll : l.length ≤ 6 := by rw [hle]; exact dsOf_len _ _
    have hod : ∀ d ∈ l, okDty d = true := by rw [hle]; exact dsOf_ok hxs
    have lt_gD20 := haD20.lt
    refine s_next ((Upd.refl _ _).nx u23) (s_do (t_alloc (cs := [.int .i64 0, .int .i64 0, .int .i64 0, .int .i64 0, .int .i64 0]) Try.zeroValue28 rfl rfl rfl (fun bk26 w27 ebk26 sbk26 B28 u29 => ?_)))
    have zu29 := u29.size
    refine s_next ((Upd.refl _ _).nx u29) (s_do (t_st (vs := [.int .i64 ((smR u).rest), .int .i64 ((smR u).span), .int .i64 ((smR u).work), .int .i64 ((smR u).week), .int .i64 ((smR u).ww)]) Try.sizeOf28 rfl rfl rfl B28 rfl rfl rfl rfl (fun w31 sw31 B33 u32 => ?_)))
    have zu32 := u32.size
    have B33 : Blk w31 bk26 28 [.int .i64 ((smR u).rest), .int .i64 ((smR u).span), .int .i64 ((smR u).work), .int .i64 ((smR u).week), .int .i64 ((smR u).ww)] := B33
    refine s_next ((Upd.refl _ _).next u32 (fun i hi (h : i = bk26) => show w11.heap.size ≤ i ∨ (False) by first | omega | exact .inr h)) (y_assign rfl rfl rfl (s_nil ?_))
    have D35 := ((haD20.keep u29 (fun _ h => h)).keep u32 (fun hb => show ¬ (gD20 = bk26) by first | omega | assumption))
    exact hK8 (w16.heap.size, bk26, aoD20, gD20, cD20, l) _ _ ⟨rfl, rfl, rfl, trivial⟩ ⟨((((((Upd.refl _ _).next u12 (fun _ _ h => h.elim)).next u17 (fun _ _ h => h.elim)).next u23 (fun _ _ h => h.elim)).next u29 (fun _ _ h => h.elim)).next u32 (fun i hi h => by omega)), B33, D35, hle, (by show w3.heap.size ≤ bk26 ∧ w3.heap.size ≤ w16.heap.size; omega)⟩
   refine s_do (t_alloc (cs := [.int .i64 0, .int .i64 0, .int .i64 0, .int .i64 0, .int .i64 0]) Try.zeroValue28 rfl rfl rfl (fun bk36 w37 ebk36 sbk36 B38 u39 => ?_))
   have zu39 := u39.size
   refine s_next ((Upd.refl _ _).nx u39) (s_do (t_call own9 rfl rfl rfl rfl (smallD_v u xs ao b o cap 6 _ (hx.keep (E19.nx u39) (fun _ h => h)) hxl hxs (by decide) (by omega)) (fun v42 w43 r45 => ?_)))
   obtain ⟨⟨aoD41, gD41, cD41, l, hle, rfl, haD41⟩, u44⟩ := r45
   have zu44 := u44.size
   have hll : l.length ≤ 6 := by rw [hle]; exact dsOf_len _ _
   have hod : ∀ d ∈ l, okDty d = true := by rw [hle]; exact dsOf_ok hxs
   have lt_gD41 := haD41.lt
   refine s_next ((Upd.refl _ _).nx u44) (s_do ?_)
   have B47 := (B38.kx u44)
   refine t_st (vs := [.int .i64 ((smR u).rest), .int .i64 ((smR u).span), .int .i64 ((smR u).work), .int .i64 ((smR u).week), .int .i64 ((smR u).ww)]) Try.sizeOf28 rfl rfl rfl B47 rfl rfl rfl rfl (fun w48 sw48 B50 u49 => ?_)
   have zu49 := u49.size
   have B50 : Blk w48 bk36 28 [.int .i64 ((smR u).rest), .int .i64 ((smR u).span), .int .i64 ((smR u).work), .int .i64 ((smR u).week), .int .i64 ((smR u).ww)] := B50
   refine s_next ((Upd.refl _ _).next u49 (fun i hi (h : i = bk36) => show w11.heap.size ≤ i ∨ (False) by first | omega | exact .inr h)) (y_assign rfl rfl rfl (s_nil ?_))
   have D52 := (haD41.keep u49 (fun hb => show ¬ (gD41 = bk36) by first | omega | assumption))
   exact hK8 (w37.heap.size, bk36, aoD41, gD41, cD41, l) _ _ ⟨rfl, rfl, rfl, trivial⟩ ⟨((((((Upd.refl _ _).next u12 (fun _ _ h => h.elim)).next u17 (fun _ _ h => h.elim)).next u39 (fun _ _ h => h.elim)).next u44 (fun _ _ h => h.elim)).next u49 (fun i hi h => by omega)), B50, D52, hle, (by show w3.heap.size ≤ bk36 ∧ w3.heap.size ≤ w37.heap.size; omega)⟩
  refine s_do (t_alloc (cs := [.int .i64 0, .int .i64 0, .int .i64 0, .int .i64 0, .int .i64 0]) Try.zeroValue28 rfl rfl rfl (fun bk53 w54 ebk53 sbk53 B55 u56 => ?_))
  have zu56 := u56.size
  refine s_next ((Upd.refl _ _).nx u56) (s_do (t_call own8 rfl rfl rfl rfl (small_c u _ _ _ _ hu) (fun v58 w59 r61 => ?_)))
  obtain ⟨rfl, u60⟩ := r61
  have zu60 := u60.size
  refine s_next ((Upd.refl _ _).nx u60) (s_do (t_call own9 rfl rfl rfl rfl (smallD_v u xs ao b o cap 6 _ (hx.keep ((E13.nx u56).nx u60) (fun _ h => h)) hxl hxs (by decide) (by omega)) (fun v64 w65 r67 => ?_)))
  obtain ⟨⟨aoD63, gD63, cD63, l, hle, rfl, haD63⟩, u66⟩ := r67
  have zu66 := u66.size
  have hll : l.length ≤ 6 := by rw [hle]; exact dsOf_len _ _
  have hod : ∀ d ∈ l, okDty d = true := by rw [hle]; exact dsOf_ok hxs
  have lt_gD63 := haD63.lt
  refine s_next ((Upd.refl _ _).nx u66) (s_do ?_)
  have B69 := ((B55.kx u60).kx u66)
  refine t_st (vs := [.int .i64 ((smR u).rest), .int .i64 ((smR u).span), .int .i64 ((smR u).work), .int .i64 ((smR u).week), .int .i64 ((smR u).ww)]) Try.sizeOf28 rfl rfl rfl B69 rfl rfl rfl rfl (fun w70 sw70 B72 u71 => ?_)
  have zu71 := u71.size
  have B72 : Blk w70 bk53 28 [.int .i64 ((smR u).rest), .int .i64 ((smR u).span), .int .i64 ((smR u).work), .int .i64 ((smR u).week), .int .i64 ((smR u).ww)] := B72
  refine s_next ((Upd.refl _ _).next u71 (fun i hi (h : i = bk53) => show w11.heap.size ≤ i ∨ (False) by first | omega | exact .inr h)) (y_assign rfl rfl rfl (s_nil ?_))
  have D74 := (haD63.keep u71 (fun hb => show ¬ (gD63 = bk53) by first | omega | assumption))
  exact hK8 (w59.heap.size, bk53, aoD63, gD63, cD63, l) _ _ ⟨rfl, rfl, rfl, trivial⟩ ⟨((((((Upd.refl _ _).next u12 (fun _ _ h => h.elim)).next u56 (fun _ _ h => h.elim)).next u60 (fun _ _ h => h.elim)).next u66 (fun _ _ h => h.elim)).next u71 (fun i hi h => by omega)), B72, D74, hle, (by show w3.heap.size ≤ bk53 ∧ w3.heap.size ≤ w59.heap.size; omega)⟩
 intro gg w9 hW
 obtain ⟨bs, b5, al, gl, cl, l⟩ := gg
 change WC _ _ _ _ _ _ [(1, .slice ap ps.length cp), (5, .pointer (some ⟨b5, 0, none⟩)), (6, .slice al l.length cl)] _
 change Upd (fun _ => False) w3 w9 ∧ (Blk w9 b5 28 [.int .i64 ((smR u).rest), .int .i64 ((smR u).span), .int .i64 ((smR u).work), .int .i64 ((smR u).week), .int .i64 ((smR u).ww)]) ∧ (Acc encDty 4 40 bs w9 al gl cl l) ∧ (l = dsOf xs 6) ∧ (w3.heap.size ≤ b5 ∧ w3.heap.size ≤ bs) at hW
 obtain ⟨u10, I75, I76, I77, I78⟩ := hW
 have zu10 := u10.size
 have hb5 := I75; clear I75
 have hla := I76; clear I76
 have hle := I77; clear I77
 have hbb := I78; clear I78
 have lt_gl := hla.lt
 have hll : l.length ≤ 6 := by rw [hle]; exact dsOf_len _ _
 have hod : ∀ d ∈ l, okDty d = true := by rw [hle]; exact dsOf_ok hxs
 have h607 : ∀ d ∈ l, d.eh ≤ 607 := by rw [hle]; exact dsOf_end hxs
 have lt_b5 := hb5.lt
 refine c_seq fun K80 hK80 => (c_drawnM follows (fun _ => False) (.look 0 (.look 1 (.act 2 (.act 3 (.look 4 (.look 5 (.look 6 (.look 7 (.look 8 (.look 9 (.look 10 (.look 11 (.look 12 .done))))))))) .stop) .stop))) (by kernel_rfl) fun w81 u82 => ?_)
 have zu82 := u82.size
 have B84 := (hb5.kx u82)
 refine y_loadN (vs := [.int .i64 ((smR u).rest), .int .i64 ((smR u).span), .int .i64 ((smR u).work), .int .i64 ((smR u).week), .int .i64 ((smR u).ww)]) Try.isAgg28 Try.sizeOf28 rfl rfl rfl (B84.at.sub 0 5) rfl (fun h => h) (y_move rfl rfl rfl (s_do ?_))
 have D86 := (hla.keep u82 (fun _ h => h))
 refine t_call own11 rfl rfl rfl rfl (duties_c l al gl 0 cl _ (D86.sl (fun _ => rfl)) (by omega) (by omega)) (fun v87 w88 r90 => ?_)
 obtain ⟨⟨aoY85, gY85, cY85, rfl, haY85⟩, u89⟩ := r90
 have zu89 := u89.size
 have lt_gY85 := haY85.lt
 refine s_next ((Upd.refl _ _).nx u89) (s_do (t_call own10 rfl rfl rfl rfl (Rested_v aoY85 gY85 0 cY85 _ (haY85.sl (fun _ => rfl)) (chk_of hr (by omega) hod) (by omega)) (fun v92 w93 r95 => ?_)))
 obtain ⟨⟨at1, rule1, rfl, hR1⟩, u94⟩ := r95
 have zu94 := u94.size
 have hat1 := rest_at hr hod hR1
 refine s_next ((Upd.refl _ _).nx u94) (y_move rfl rfl rfl (y_extract rfl rfl rfl rfl (y_extract rfl rfl rfl rfl (y_extract rfl rfl rfl rfl (y_extract rfl rfl rfl rfl (y_assign rfl rfl rfl (y_assign rfl rfl rfl (y_assign rfl rfl rfl (y_assign rfl rfl rfl (s_nil (hK80 _ _ (c_seq fun K97 hK97 => (c_cut (γ := Nat) (fun zz => [(1, .slice ap ps.length cp), (5, .pointer (some ⟨b5, 0, none⟩)), (6, .slice al l.length cl), (7, .int .i64 at1), (9, .bool (decide (brokP (smR u) (srtS (l.map shtS)) = 0))), (57, .bool false)]) (fun zz w => Upd (fun _ => False) w93 w) (fun K99 hK99 => ?_) ?_)))))))))))))
 ·
  refine c_region (t_move rfl rfl rfl (t_cmp rfl rfl rfl rfl rfl (t_samehd (v := .bool false) rfl (t_move rfl rfl rfl (t_move rfl rfl rfl (t_cmp rfl rfl rfl rfl rfl (t_same 35 (v := .bool false) rfl (congrArg Value.bool (decide_eq_false (by rcases hat1.2.1 with h | h <;> omega))) (t_pick_f rfl rfl rfl rfl (t_move rfl rfl rfl (t_move rfl rfl rfl (t_move rfl rfl rfl (t_len Try.underlying30 rfl rfl rfl rfl (t_cmp rfl rfl rfl rfl rfl (t_same 41 (v := .bool false) rfl (congrArg Value.bool (decide_eq_false (by rcases hat1.2.1 with h | h <;> omega))) (t_pick_f rfl rfl rfl rfl (t_move rfl rfl rfl (t_move rfl rfl rfl (t_cmp rfl rfl rfl rfl rfl (t_move rfl rfl rfl (t_cmp rfl rfl rfl rfl rfl (t_neB Try.underlying4 rfl rfl rfl rfl (t_same 48 (v := .bool false) rfl (congrArg Value.bool (decide_eq_false (fun h => h (by rw [Bool.eq_iff_iff]; simp only [decide_eq_true_eq]; exact hat1.2.2.1)))) (t_pick_f rfl rfl rfl rfl ?_)))))))))))))))))))))))
  refine t_move rfl rfl rfl (t_move rfl rfl rfl (t_cmp rfl rfl rfl rfl rfl (t_same 52 (v := .bool false) rfl (congrArg Value.bool (decide_eq_false (by have := hat1.2.2.2; omega))) (t_pick_f rfl rfl rfl rfl (t_move rfl rfl rfl (t_move rfl rfl rfl (t_cmp rfl rfl rfl rfl rfl (t_same 56 (v := .bool false) rfl (congrArg Value.bool (decide_eq_false (by have := hat1.2.2.2; omega))) (t_pick_f rfl rfl rfl rfl (t_nil' ?_))))))))))
  exact hK99 0 _ _ ⟨rfl, rfl, rfl, rfl, rfl, rfl, trivial⟩ (Upd.refl _ _)
 intro zz w100 u101
 have zu101 := u101.size
 refine c_cond_f rfl (c_skip (hK97 _ _ (c_seq fun K103 hK103 => (c_seq fun K104 hK104 => (c_region (t_assign rfl rfl rfl (t_nil' (hK104 _ _ (c_block (c_rounds 4 (WR.weak [(1, .slice ap ps.length cp), (5, .pointer (some ⟨b5, 0, none⟩)), (6, .slice al l.length cl), (7, .int .i64 at1), (9, .bool (decide (brokP (smR u) (srtS (l.map shtS)) = 0))), (11, .int .i64 0)] ⟨rfl, rfl, rfl, rfl, rfl, rfl, trivial⟩ (r_round fun K105 hK105 => (c_seq fun K106 hK106 => (c_seq fun K107 hK107 => (c_region (t_move rfl rfl rfl (t_cmp rfl rfl rfl rfl rfl (t_samehd (v := .bool true) rfl (t_nil' (hK107 _ _ (c_cond_t rfl (c_skip (hK106 _ _ ?_)))))))))))))))))))))))
 refine c_seq fun K108 hK108 => (c_block (c_seq fun K109 hK109 => (c_region (t_bslice (ps := []) (cs := []) (e := 41) rfl rfl ⟨rfl, rfl⟩ (fun w => by kernel_rfl) (fun bk110 w111 ebk110 sbk110 B112 u113 => ?_)))))
 have zu113 := u113.size
 refine t_assign rfl rfl rfl (t_nil' (hK109 _ _ (c_seq fun K115 hK115 => (c_seq fun K116 hK116 => (c_region (t_assign rfl rfl rfl (t_nil' (hK116 _ _ (c_block (c_loop (γ := Nat × Option Addr × Nat × Nat × List Sp) (fun gg => [(1, .slice ap ps.length cp), (5, .pointer (some ⟨b5, 0, none⟩)), (6, .slice al l.length cl), (7, .int .i64 at1), (9, .bool (decide (brokP (smR u) (srtS (l.map shtS)) = 0))), (11, .int .i64 0), (12, .slice gg.2.1 gg.2.2.2.2.length gg.2.2.2.1), (13, .int .i64 (gg.1 : Int))]) (fun gg w => Upd (fun i => bk110 ≤ i) w111 w ∧ (gg.1 ≤ l.length) ∧ (Acc encSp 2 41 bk110 w gg.2.1 gg.2.2.1 gg.2.2.2.1 gg.2.2.2.2) ∧ (gg.2.2.2.2 = timesW (fun _ d => lngS d) l gg.1)) (fun gg => l.length - gg.1) (0, some ⟨bk110, 0, none⟩, bk110, 0, []) ⟨rfl, rfl, rfl, rfl, rfl, rfl, rfl, rfl, trivial⟩ ⟨Upd.refl _ _, (Nat.zero_le _), (Acc.ofRaw (cs := []) B112 (Nat.le_refl _) (Nat.le_refl _) (Nat.zero_le _) (by rfl) (by rfl)), rfl⟩ ?_))))))))))
 intro gg w118 hW K117 hK117
 obtain ⟨k, at_, gt, ct, out⟩ := gg
 change WC _ _ _ _ _ _ [(1, .slice ap ps.length cp), (5, .pointer (some ⟨b5, 0, none⟩)), (6, .slice al l.length cl), (7, .int .i64 at1), (9, .bool (decide (brokP (smR u) (srtS (l.map shtS)) = 0))), (11, .int .i64 0), (12, .slice at_ out.length ct), (13, .int .i64 (k : Int))] _
 change Upd (fun i => bk110 ≤ i) w111 w118 ∧ (k ≤ l.length) ∧ (Acc encSp 2 41 bk110 w118 at_ gt ct out) ∧ (out = timesW (fun _ d => lngS d) l k) at hW
 obtain ⟨u119, I120, I121, I122⟩ := hW
 have zu119 := u119.size
 have hk := I120; clear I120
 have htA := I121; clear I121
 have hout := I122; clear I122
 have lt_gt := htA.lt
 have hol : out.length = k := by rw [hout, timesW_len]
 refine c_seq fun K124 hK124 => (c_seq fun K125 hK125 => (c_region (t_move rfl rfl rfl (t_move rfl rfl rfl (t_len Try.underlying30 rfl rfl rfl rfl (t_cmp rfl rfl rfl rfl rfl (t_nil' (hK125 _ _ (c_condp rfl (fun g66 => ?_) (fun g66 => ?_))))))))))
 ·
  have hd9 := hod _ (nth_mem (show k < l.length by omega))
  simp only [okDty, decide_eq_true_eq] at hd9
  refine c_skip (hK124 _ _ (c_seq fun K126 hK126 => (c_block (c_seq fun K127 hK127 => (c_drawnM follows (fun _ => False) (.look 0 (.look 1 (.look 2 (.look 3 (.look 4 (.look 5 (.look 6 (.look 7 (.look 8 (.look 9 (.look 10 (.look 11 (.look 12 (.look 13 .done)))))))))))))) (by kernel_rfl) fun w128 u129 => ?_)))))
  have zu129 := u129.size
  refine y_move rfl rfl rfl (y_move rfl rfl rfl ?_)
  have D131 := ((((((D86.keep u89 (fun _ h => h)).keep u94 (fun _ h => h)).keep u101 (fun _ h => h)).keep u113 (fun _ h => h)).keep u119 (fun hb => show ¬ (bk110 ≤ gl) by first | omega | assumption)).keep u129 (fun _ h => h))
  have i132 : k < l.length := (by omega)
  refine y_index (j := k) Try.underlying30 Try.sizeOf40 rfl rfl rfl rfl ((D131.sl (fun _ => rfl)).addr (by omega)) rfl i132 (y_field Try.underlying40 rfl Try.sizeOf38 (0 + k * 4 + 0) rfl rfl rfl rfl (y_field Try.underlying38 rfl Try.sizeOf3 (0 + k * 4 + 0 + 0) rfl rfl rfl rfl ?_))
  have D133 := ((((((D86.keep u89 (fun _ h => h)).keep u94 (fun _ h => h)).keep u101 (fun _ h => h)).keep u113 (fun _ h => h)).keep u119 (fun hb => show ¬ (bk110 ≤ gl) by first | omega | assumption)).keep u129 (fun _ h => h))
  refine y_load Try.isAgg3 rfl rfl rfl (((D133.sl (fun _ => rfl)).at_ k (by omega)) 0 _ rfl) (fun h => h) (y_move rfl rfl rfl (y_move rfl rfl rfl ?_))
  have i134 : k < l.length := (by omega)
  refine y_index (j := k) Try.underlying30 Try.sizeOf40 rfl rfl rfl rfl ((D131.sl (fun _ => rfl)).addr (by omega)) rfl i134 (y_field Try.underlying40 rfl Try.sizeOf38 (0 + k * 4 + 2) rfl rfl rfl rfl (y_field Try.underlying38 rfl Try.sizeOf3 (0 + k * 4 + 2 + 1) rfl rfl rfl rfl (y_load Try.isAgg3 rfl rfl rfl (((D133.sl (fun _ => rfl)).at_ k (by omega)) 3 _ rfl) (fun h => h) (y_assign rfl rfl rfl (y_assign rfl rfl rfl (s_nil (hK127 _ _ (c_seq fun K135 hK135 => (c_seq fun K136 hK136 => (c_region (t_move rfl rfl rfl (t_cmp rfl rfl rfl rfl rfl (t_samehd (v := .bool false) rfl (t_nil' (hK136 _ _ (c_cond_f rfl (c_skip (hK135 _ _ (c_seq fun K137 hK137 => (c_seq fun K138 hK138 => (c_region (t_move rfl rfl rfl (t_len Try.underlying26 rfl rfl rfl rfl ?_)))))))))))))))))))))))
  refine t_assign rfl rfl rfl (t_nil' (hK138 _ _ (c_seq fun K139 hK139 => (c_region (t_move rfl rfl rfl (t_cmp rfl rfl rfl rfl rfl (t_samehd (v := .bool false) rfl (t_move rfl rfl rfl (t_skip rfl rfl rfl (t_skip rfl rfl rfl (t_pick_f rfl rfl rfl rfl (t_nil' (hK139 _ _ (c_cond_f rfl (c_skip (hK137 _ _ (c_region (t_move rfl rfl rfl (t_move rfl rfl rfl (t_move rfl rfl rfl (t_build (ps := [(0, .int .i64 ((nth l k).bl)), (1, .int .i64 ((nth l k).eh))]) (v := .agg #[.int .i64 ((nth l k).bl), .int .i64 ((nth l k).eh)]) rfl rfl ⟨rfl, rfl⟩ (fun w => by kernel_rfl) (t_bslice (ps := [(0, .agg #[.int .i64 ((nth l k).bl), .int .i64 ((nth l k).eh)])]) (cs := [.int .i64 ((nth l k).bl), .int .i64 ((nth l k).eh)]) (e := 41) rfl rfl ⟨rfl, rfl⟩ (fun w => by kernel_rfl) (fun bk140 w141 ebk140 sbk140 B142 u143 => ?_)))))))))))))))))))))))
  have zu143 := u143.size
  have D145 := ((htA.keep u129 (fun _ h => h)).keep u143 (fun _ h => h))
  refine t_append (z := .agg #[.int .i64 0, .int .i64 0]) (bytes := 16) (k := 2) (base := bk110) (⟨(nth l k).bl, (nth l k).eh⟩ : Sp) Try.underlying36 (by kernel_rfl) rfl (by decide) (fun _ => rfl) (by intro x; simp [encSp, Value.oneCell']) rfl rfl rfl rfl D145 B142 (by omega) (by omega) (by decide) (fun ao146 gb147 cp148 w149 A150 u151 gegb147 lngb147 => ?_)
  have zu151 := u151.size
  have lt_gb147 := A150.lt
  refine t_assign rfl rfl rfl (t_nil' (hK126 _ _ (c_region (t_move rfl rfl rfl (t_ari rfl rfl rfl rfl rfl (by omega) (t_assign rfl rfl rfl (t_nil' ?_)))))))
  exact hK117 (k + 1, ao146, gb147, cp148, (out ++ [(⟨(nth l k).bl, (nth l k).eh⟩ : Sp)])) _ _ (by show l.length - (k + 1) < l.length - k; omega) ⟨rfl, rfl, rfl, rfl, rfl, rfl, rfl, rfl, trivial⟩ ⟨(((u119.next u129 (fun _ _ h => h.elim)).next u143 (fun _ _ h => h.elim)).next u151 (fun i hi (h : (i = gt ∧ bk110 ≤ i)) => show bk110 ≤ i by first | omega | assumption)), (by omega), A150, (by
    have h9 := timesW_succ (fun _ d => lngS d) l k
    rw [hout]; exact h9.symm)⟩
 have hkl : k = l.length := by omega
 have hol2 : out.length = l.length := by omega
 have hout2 := hout
 rw [hkl] at hout2
 obtain ⟨hT1, hT2⟩ := truths hr hod (tru_lng hod)
 rw [← hout2] at hT1 hT2
 have hA : at1 < 0 → brokP (smR u) (srtS out) = 0 := fun h => hT1 (hat1.1.1 h)
 have htok : ∀ x ∈ out, OkSp x ∧ x.e ≤ 699 := fun x hx => by
   rw [hout2] at hx
   obtain ⟨d, hd, h1, h2⟩ := tru_times (tru_lng hod) hod hx
   exact ⟨h1, by have := h607 d hd; omega⟩
 have hcapT := htA.cap_le
 have hoT : out = l.map lngS := by
   have h9 := timesW_map lngS (Nat.le_refl l.length)
   rw [List.take_length] at h9
   rw [hout2]; exact h9
 have hK : brokP (smR u) (srtS out) = 0 ↔ at1 < 0 := by rw [hoT]; exact hat1.1.symm
 refine c_exit (hK115 _ _ (c_seq fun K153 hK153 => (c_region ?_)))
 have B154 := ((((((hb5.kx u82).kx u89).kx u94).kx u101).kx u113).keep u119 (show ¬ (bk110 ≤ b5) by first | omega | assumption))
 refine t_loadN (vs := [.int .i64 ((smR u).rest), .int .i64 ((smR u).span), .int .i64 ((smR u).work), .int .i64 ((smR u).week), .int .i64 ((smR u).ww)]) Try.isAgg28 Try.sizeOf28 rfl rfl rfl (B154.at.sub 0 5) rfl (t_move rfl rfl rfl (t_call own12 rfl rfl rfl rfl (keepsT_c (smR u) out at_ gt 0 ct _ (htA.sl (fun _ => rfl)) (by omega) hr htok) (fun v155 w156 r158 => ?_)))
 obtain ⟨rfl, u157⟩ := r158
 have zu157 := u157.size
 refine t_assign rfl rfl rfl (t_nil' (hK153 _ _ (c_seq fun K160 hK160 => (c_cut (γ := Nat) (fun zz => [(1, .slice ap ps.length cp), (5, .pointer (some ⟨b5, 0, none⟩)), (6, .slice al l.length cl), (7, .int .i64 at1), (9, .bool (decide (brokP (smR u) (srtS (l.map shtS)) = 0))), (11, .int .i64 0), (12, .slice at_ out.length ct), (182, .bool false)]) (fun zz w => Upd (fun _ => False) w156 w) (fun K162 hK162 => ?_) ?_))))
 ·
  refine c_region (t_move rfl rfl rfl (t_cmp rfl rfl rfl rfl rfl (t_samehd (v := .bool true) rfl (t_move rfl rfl rfl (t_move rfl rfl rfl (t_move rfl rfl rfl (t_cmp rfl rfl rfl rfl rfl (t_neB Try.underlying4 rfl rfl rfl rfl (t_same 157 (v := .bool false) rfl (congrArg Value.bool (decide_eq_false (fun h => h (by rw [Bool.eq_iff_iff]; simp only [decide_eq_true_eq]; exact hK)))) (t_pick_t rfl rfl rfl rfl (t_move rfl rfl rfl (t_move rfl rfl rfl (t_cmp rfl rfl rfl rfl rfl (t_samehd (v := .bool false) rfl (t_move rfl rfl rfl (t_skip rfl rfl rfl (t_skip rfl rfl rfl (t_skip rfl rfl rfl (t_pick_f rfl rfl rfl rfl (t_pick_f rfl rfl rfl rfl (t_move rfl rfl rfl (t_move rfl rfl rfl (t_cmp rfl rfl rfl rfl rfl ?_)))))))))))))))))))))))
  refine t_move rfl rfl rfl (t_splitp 171 rfl (fun g171 => ?_) (fun g171 => ?_))
  ·
   refine t_move rfl rfl rfl (t_notp rfl rfl rfl (t_same 173 (v := .bool false) rfl (congrArg Value.bool (decide_eq_false (fun h => h (hA g171)))) (t_pick_t rfl rfl rfl rfl (t_pick_f rfl rfl rfl rfl (t_move rfl rfl rfl (t_move rfl rfl rfl (t_move rfl rfl rfl (t_splitp 178 rfl (fun g178 => ?_) (fun g178 => ?_)))))))))
   ·
    refine t_move rfl rfl rfl (t_notp rfl rfl rfl (t_same 180 (v := .bool false) rfl (congrArg Value.bool (decide_eq_false (fun h => h (hT2 g178)))) (t_pick_t rfl rfl rfl rfl (t_pick_f rfl rfl rfl rfl (t_nil' ?_)))))
    exact hK162 0 _ _ ⟨rfl, rfl, rfl, rfl, rfl, rfl, rfl, rfl, trivial⟩ (Upd.refl _ _)
   refine t_skip rfl rfl rfl (t_skip rfl rfl rfl (t_pick_f rfl rfl rfl rfl (t_pick_f rfl rfl rfl rfl (t_nil' ?_))))
   exact hK162 0 _ _ ⟨rfl, rfl, rfl, rfl, rfl, rfl, rfl, rfl, trivial⟩ (Upd.refl _ _)
  refine t_skip rfl rfl rfl (t_skip rfl rfl rfl (t_pick_f rfl rfl rfl rfl (t_pick_f rfl rfl rfl rfl (t_move rfl rfl rfl (t_move rfl rfl rfl (t_move rfl rfl rfl (t_splitp 178 rfl (fun g178 => ?_) (fun g178 => ?_))))))))
  ·
   refine t_move rfl rfl rfl (t_notp rfl rfl rfl (t_same 180 (v := .bool false) rfl (congrArg Value.bool (decide_eq_false (fun h => h (hT2 g178)))) (t_pick_t rfl rfl rfl rfl (t_pick_f rfl rfl rfl rfl (t_nil' ?_)))))
   exact hK162 0 _ _ ⟨rfl, rfl, rfl, rfl, rfl, rfl, rfl, rfl, trivial⟩ (Upd.refl _ _)
  refine t_skip rfl rfl rfl (t_skip rfl rfl rfl (t_pick_f rfl rfl rfl rfl (t_pick_f rfl rfl rfl rfl (t_nil' ?_))))
  exact hK162 0 _ _ ⟨rfl, rfl, rfl, rfl, rfl, rfl, rfl, rfl, trivial⟩ (Upd.refl _ _)
 intro zz w163 u164
 have zu164 := u164.size
 refine c_cond_f rfl (c_skip (hK160 _ _ (c_cut (γ := Nat) (fun zz => [(1, .slice ap ps.length cp), (5, .pointer (some ⟨b5, 0, none⟩)), (6, .slice al l.length cl), (7, .int .i64 at1), (9, .bool (decide (brokP (smR u) (srtS (l.map shtS)) = 0))), (11, .int .i64 0), (204, .bool false)]) (fun zz w => Upd (fun _ => False) w163 w) (fun K167 hK167 => ?_) ?_)))
 ·
  refine c_drawnM follows (fun _ => False) (.look 0 (.look 1 (.look 2 (.look 3 (.look 4 (.look 5 (.look 6 (.look 7 (.look 8 (.look 9 (.look 10 (.look 11 (.act 12 (.look 13 (.look 14 (.look 15 (.look 16 (.look 17 (.act 18 (.look 19 (.look 20 (.look 21 .done))) .stop)))))) .stop))))))))))))) (by kernel_rfl) fun w170 u171 => ?_
  have zu171 := u171.size
  refine y_move rfl rfl rfl (y_cmp rfl rfl rfl rfl rfl (y_samehd (v := .bool true) rfl (y_move rfl rfl rfl (y_move rfl rfl rfl (y_cmp rfl rfl rfl rfl rfl (y_pick_t rfl rfl rfl rfl (y_move rfl rfl rfl (y_splitp 189 rfl (fun g189 => ?_) (fun g189 => ?_)))))))))
  ·
   obtain ⟨a, ha⟩ : ∃ a : Nat, at1 = (a : Int) := ⟨at1.toNat, by omega⟩
   have hR9 := hR1
   rw [ha] at hR9
   have haL : a < l.length := by rcases hat1.2.1 with h | h <;> omega
   obtain ⟨hc1, hc2⟩ := tru_cut hr hod hR9 hoT haL
   have B173 := (((B154.kx u157).kx u164).kx u171)
   refine y_loadN (vs := [.int .i64 ((smR u).rest), .int .i64 ((smR u).span), .int .i64 ((smR u).work), .int .i64 ((smR u).week), .int .i64 ((smR u).ww)]) Try.isAgg28 Try.sizeOf28 rfl rfl rfl (B173.at.sub 0 5) rfl (fun h => h) (y_move rfl rfl rfl (y_move rfl rfl rfl (y_ari rfl rfl rfl rfl rfl (by omega) (y_sliceTo (a + 1) Try.underlying36 Try.sizeOf41 rfl rfl rfl rfl (by omega) (by omega) (y_same 194 (v := .slice (subAddr at_ ct 0 2) ((out.take (a + 1)).length) ct) rfl (by rw [List.length_take, Nat.min_eq_left (by omega)]) (s_do ?_))))))
   have D174 := (((htA.keep u157 (fun _ h => h)).keep u164 (fun _ h => h)).keep u171 (fun _ h => h))
   refine t_call own12 rfl rfl rfl rfl (keepsT_c (smR u) (out.take (a + 1)) (subAddr at_ ct 0 2) gt 0 ct _ (Sl.subTo (D174.sl (fun _ => rfl)) ct (a + 1) (by omega)) (by rw [List.length_take]; omega) hr (fun x hx => htok x (List.mem_of_mem_take hx))) (fun v175 w176 r178 => ?_)
   obtain ⟨rfl, u177⟩ := r178
   have zu177 := u177.size
   refine t_same 195 (v := .bool false) rfl (congrArg Value.bool (decide_eq_false hc1)) (s_next ((Upd.refl _ _).nx u177) (y_move rfl rfl rfl (y_loadN (vs := [.int .i64 ((smR u).rest), .int .i64 ((smR u).span), .int .i64 ((smR u).work), .int .i64 ((smR u).week), .int .i64 ((smR u).ww)]) Try.isAgg28 Try.sizeOf28 rfl rfl rfl (B173.at.sub 0 5) rfl (fun h => h) (y_move rfl rfl rfl (y_move rfl rfl rfl (y_sliceTo (a) Try.underlying36 Try.sizeOf41 rfl rfl rfl rfl (by omega) (by omega) (y_same 200 (v := .slice (subAddr at_ ct 0 2) ((out.take a).length) ct) rfl (by rw [List.length_take, Nat.min_eq_left (by omega)]) (s_do ?_))))))))
   have D180 := (D174.keep u177 (fun _ h => h))
   refine t_call own12 rfl rfl rfl rfl (keepsT_c (smR u) (out.take a) (subAddr at_ ct 0 2) gt 0 ct _ (Sl.subTo (D180.sl (fun _ => rfl)) ct (a) (by omega)) (by rw [List.length_take]; omega) hr (fun x hx => htok x (List.mem_of_mem_take hx))) (fun v181 w182 r184 => ?_)
   obtain ⟨rfl, u183⟩ := r184
   have zu183 := u183.size
   refine t_same 201 (v := .bool true) rfl (congrArg Value.bool (decide_eq_true hc2)) (s_next ((Upd.refl _ _).nx u183) (y_not rfl rfl rfl (y_pick_f rfl rfl rfl rfl (y_pick_t rfl rfl rfl rfl (s_nil ?_)))))
   exact hK167 0 _ _ ⟨rfl, rfl, rfl, rfl, rfl, rfl, rfl, trivial⟩ ((((Upd.refl _ _).next u171 (fun _ _ h => h.elim)).next u177 (fun _ _ h => h.elim)).next u183 (fun _ _ h => h.elim))
  refine y_skip rfl rfl rfl (y_skip rfl rfl rfl (y_skip rfl rfl rfl (y_skip rfl rfl rfl (y_skip rfl rfl rfl (s_do (t_skip rfl rfl rfl (s_next (Upd.refl _ _) (y_skip rfl rfl rfl (y_skip rfl rfl rfl (y_skip rfl rfl rfl (y_skip rfl rfl rfl (y_skip rfl rfl rfl (s_do (t_skip rfl rfl rfl (s_next (Upd.refl _ _) (y_skip rfl rfl rfl (y_skip rfl rfl rfl (y_pick_f rfl rfl rfl rfl (s_nil ?_)))))))))))))))))))
  exact hK167 0 _ _ ⟨rfl, rfl, rfl, rfl, rfl, rfl, rfl, trivial⟩ ((Upd.refl _ _).next u171 (fun _ _ h => h.elim))
 intro zz w168 u169
 have zu169 := u169.size
 refine c_cond_f rfl (c_skip (hK108 _ _ (c_region (t_move rfl rfl rfl (t_ari rfl rfl rfl rfl rfl (by omega) (t_samehd (v := .int .i64 1) rfl (t_assign rfl rfl rfl (t_nil' (hK105 _ _ (WR.weak [(1, .slice ap ps.length cp), (5, .pointer (some ⟨b5, 0, none⟩)), (6, .slice al l.length cl), (7, .int .i64 at1), (9, .bool (decide (brokP (smR u) (srtS (l.map shtS)) = 0))), (11, .int .i64 1)] ⟨rfl, rfl, rfl, rfl, rfl, rfl, trivial⟩ (r_round fun K187 hK187 => (c_seq fun K188 hK188 => (c_seq fun K189 hK189 => (c_region (t_move rfl rfl rfl (t_cmp rfl rfl rfl rfl rfl (t_samehd (v := .bool true) rfl (t_nil' (hK189 _ _ (c_cond_t rfl (c_skip (hK188 _ _ (c_seq fun K190 hK190 => ?_)))))))))))))))))))))))
 refine c_block (c_seq fun K191 hK191 => (c_region (t_bslice (ps := []) (cs := []) (e := 41) rfl rfl ⟨rfl, rfl⟩ (fun w => by kernel_rfl) (fun bk192 w193 ebk192 sbk192 B194 u195 => ?_))))
 have zu195 := u195.size
 refine t_assign rfl rfl rfl (t_nil' (hK191 _ _ (c_seq fun K197 hK197 => (c_seq fun K198 hK198 => (c_region (t_assign rfl rfl rfl (t_nil' (hK198 _ _ (c_block (c_loop (γ := Nat × Option Addr × Nat × Nat × List Sp) (fun gg => [(1, .slice ap ps.length cp), (5, .pointer (some ⟨b5, 0, none⟩)), (6, .slice al l.length cl), (7, .int .i64 at1), (9, .bool (decide (brokP (smR u) (srtS (l.map shtS)) = 0))), (11, .int .i64 1), (12, .slice gg.2.1 gg.2.2.2.2.length gg.2.2.2.1), (13, .int .i64 (gg.1 : Int))]) (fun gg w => Upd (fun i => bk192 ≤ i) w193 w ∧ (gg.1 ≤ l.length) ∧ (Acc encSp 2 41 bk192 w gg.2.1 gg.2.2.1 gg.2.2.2.1 gg.2.2.2.2) ∧ (gg.2.2.2.2 = timesW (fun _ d => shtS d) l gg.1)) (fun gg => l.length - gg.1) (0, some ⟨bk192, 0, none⟩, bk192, 0, []) ⟨rfl, rfl, rfl, rfl, rfl, rfl, rfl, rfl, trivial⟩ ⟨Upd.refl _ _, (Nat.zero_le _), (Acc.ofRaw (cs := []) B194 (Nat.le_refl _) (Nat.le_refl _) (Nat.zero_le _) (by rfl) (by rfl)), rfl⟩ ?_))))))))))
 intro gg w200 hW K199 hK199
 obtain ⟨k, at_, gt, ct, out⟩ := gg
 change WC _ _ _ _ _ _ [(1, .slice ap ps.length cp), (5, .pointer (some ⟨b5, 0, none⟩)), (6, .slice al l.length cl), (7, .int .i64 at1), (9, .bool (decide (brokP (smR u) (srtS (l.map shtS)) = 0))), (11, .int .i64 1), (12, .slice at_ out.length ct), (13, .int .i64 (k : Int))] _
 change Upd (fun i => bk192 ≤ i) w193 w200 ∧ (k ≤ l.length) ∧ (Acc encSp 2 41 bk192 w200 at_ gt ct out) ∧ (out = timesW (fun _ d => shtS d) l k) at hW
 obtain ⟨u201, I202, I203, I204⟩ := hW
 have zu201 := u201.size
 have hk := I202; clear I202
 have htA := I203; clear I203
 have hout := I204; clear I204
 have lt_gt := htA.lt
 have hol : out.length = k := by rw [hout, timesW_len]
 refine c_seq fun K206 hK206 => (c_seq fun K207 hK207 => (c_region (t_move rfl rfl rfl (t_move rfl rfl rfl (t_len Try.underlying30 rfl rfl rfl rfl (t_cmp rfl rfl rfl rfl rfl (t_nil' (hK207 _ _ (c_condp rfl (fun g66 => ?_) (fun g66 => ?_))))))))))
 ·
  have hd9 := hod _ (nth_mem (show k < l.length by omega))
  simp only [okDty, decide_eq_true_eq] at hd9
  refine c_skip (hK206 _ _ (c_seq fun K208 hK208 => (c_block (c_seq fun K209 hK209 => (c_drawnM follows (fun _ => False) (.look 0 (.look 1 (.look 2 (.look 3 (.look 4 (.look 5 (.look 6 (.look 7 (.look 8 (.look 9 (.look 10 (.look 11 (.look 12 (.look 13 .done)))))))))))))) (by kernel_rfl) fun w210 u211 => ?_)))))
  have zu211 := u211.size
  refine y_move rfl rfl rfl (y_move rfl rfl rfl ?_)
  have D213 := (((((((((((D86.keep u89 (fun _ h => h)).keep u94 (fun _ h => h)).keep u101 (fun _ h => h)).keep u113 (fun _ h => h)).keep u119 (fun hb => show ¬ (bk110 ≤ gl) by first | omega | assumption)).keep u157 (fun _ h => h)).keep u164 (fun _ h => h)).keep u169 (fun _ h => h)).keep u195 (fun _ h => h)).keep u201 (fun hb => show ¬ (bk192 ≤ gl) by first | omega | assumption)).keep u211 (fun _ h => h))
  have i214 : k < l.length := (by omega)
  refine y_index (j := k) Try.underlying30 Try.sizeOf40 rfl rfl rfl rfl ((D213.sl (fun _ => rfl)).addr (by omega)) rfl i214 (y_field Try.underlying40 rfl Try.sizeOf38 (0 + k * 4 + 0) rfl rfl rfl rfl (y_field Try.underlying38 rfl Try.sizeOf3 (0 + k * 4 + 0 + 0) rfl rfl rfl rfl ?_))
  have D215 := (((((((((((D86.keep u89 (fun _ h => h)).keep u94 (fun _ h => h)).keep u101 (fun _ h => h)).keep u113 (fun _ h => h)).keep u119 (fun hb => show ¬ (bk110 ≤ gl) by first | omega | assumption)).keep u157 (fun _ h => h)).keep u164 (fun _ h => h)).keep u169 (fun _ h => h)).keep u195 (fun _ h => h)).keep u201 (fun hb => show ¬ (bk192 ≤ gl) by first | omega | assumption)).keep u211 (fun _ h => h))
  refine y_load Try.isAgg3 rfl rfl rfl (((D215.sl (fun _ => rfl)).at_ k (by omega)) 0 _ rfl) (fun h => h) (y_move rfl rfl rfl (y_move rfl rfl rfl ?_))
  have i216 : k < l.length := (by omega)
  refine y_index (j := k) Try.underlying30 Try.sizeOf40 rfl rfl rfl rfl ((D213.sl (fun _ => rfl)).addr (by omega)) rfl i216 (y_field Try.underlying40 rfl Try.sizeOf38 (0 + k * 4 + 2) rfl rfl rfl rfl (y_field Try.underlying38 rfl Try.sizeOf3 (0 + k * 4 + 2 + 1) rfl rfl rfl rfl (y_load Try.isAgg3 rfl rfl rfl (((D215.sl (fun _ => rfl)).at_ k (by omega)) 3 _ rfl) (fun h => h) (y_assign rfl rfl rfl (y_assign rfl rfl rfl (s_nil (hK209 _ _ (c_seq fun K217 hK217 => (c_seq fun K218 hK218 => (c_region (t_move rfl rfl rfl (t_cmp rfl rfl rfl rfl rfl (t_samehd (v := .bool true) rfl (t_nil' (hK218 _ _ (c_cond_t rfl (c_drawnM follows (fun _ => False) (.look 0 (.look 1 (.look 2 (.look 3 (.look 4 (.look 5 (.look 6 (.look 7 (.look 8 (.look 9 (.look 10 (.look 11 (.look 12 (.look 13 .done)))))))))))))) (by kernel_rfl) fun w219 u220 => ?_)))))))))))))))))
  have zu220 := u220.size
  refine y_move rfl rfl rfl (y_move rfl rfl rfl ?_)
  have D222 := (D213.keep u220 (fun _ h => h))
  have i223 : k < l.length := (by omega)
  refine y_index (j := k) Try.underlying30 Try.sizeOf40 rfl rfl rfl rfl ((D222.sl (fun _ => rfl)).addr (by omega)) rfl i223 (y_field Try.underlying40 rfl Try.sizeOf38 (0 + k * 4 + 0) rfl rfl rfl rfl (y_field Try.underlying38 rfl Try.sizeOf3 (0 + k * 4 + 0 + 1) rfl rfl rfl rfl ?_))
  have D224 := (D213.keep u220 (fun _ h => h))
  refine y_load Try.isAgg3 rfl rfl rfl (((D224.sl (fun _ => rfl)).at_ k (by omega)) 1 _ rfl) (fun h => h) (y_move rfl rfl rfl (y_move rfl rfl rfl ?_))
  have i225 : k < l.length := (by omega)
  refine y_index (j := k) Try.underlying30 Try.sizeOf40 rfl rfl rfl rfl ((D222.sl (fun _ => rfl)).addr (by omega)) rfl i225 (y_field Try.underlying40 rfl Try.sizeOf38 (0 + k * 4 + 2) rfl rfl rfl rfl (y_field Try.underlying38 rfl Try.sizeOf3 (0 + k * 4 + 2 + 0) rfl rfl rfl rfl (y_load Try.isAgg3 rfl rfl rfl (((D224.sl (fun _ => rfl)).at_ k (by omega)) 2 _ rfl) (fun h => h) (y_assign rfl rfl rfl (y_assign rfl rfl rfl (s_nil (hK217 _ _ (c_seq fun K226 hK226 => (c_seq fun K227 hK227 => (c_region (t_move rfl rfl rfl (t_len Try.underlying26 rfl rfl rfl rfl (t_assign rfl rfl rfl (t_nil' (hK227 _ _ (c_seq fun K228 hK228 => (c_region (t_move rfl rfl rfl (t_cmp rfl rfl rfl rfl rfl (t_samehd (v := .bool false) rfl (t_move rfl rfl rfl (t_skip rfl rfl rfl (t_skip rfl rfl rfl ?_)))))))))))))))))))))))
  refine t_pick_f rfl rfl rfl rfl (t_nil' (hK228 _ _ (c_cond_f rfl (c_skip (hK226 _ _ (c_region (t_move rfl rfl rfl (t_move rfl rfl rfl (t_move rfl rfl rfl (t_build (ps := [(0, .int .i64 ((nth l k).bh)), (1, .int .i64 ((nth l k).el))]) (v := .agg #[.int .i64 ((nth l k).bh), .int .i64 ((nth l k).el)]) rfl rfl ⟨rfl, rfl⟩ (fun w => by kernel_rfl) (t_bslice (ps := [(0, .agg #[.int .i64 ((nth l k).bh), .int .i64 ((nth l k).el)])]) (cs := [.int .i64 ((nth l k).bh), .int .i64 ((nth l k).el)]) (e := 41) rfl rfl ⟨rfl, rfl⟩ (fun w => by kernel_rfl) (fun bk229 w230 ebk229 sbk229 B231 u232 => ?_))))))))))))
  have zu232 := u232.size
  have D234 := (((htA.keep u211 (fun _ h => h)).keep u220 (fun _ h => h)).keep u232 (fun _ h => h))
  refine t_append (z := .agg #[.int .i64 0, .int .i64 0]) (bytes := 16) (k := 2) (base := bk192) (⟨(nth l k).bh, (nth l k).el⟩ : Sp) Try.underlying36 (by kernel_rfl) rfl (by decide) (fun _ => rfl) (by intro x; simp [encSp, Value.oneCell']) rfl rfl rfl rfl D234 B231 (by omega) (by omega) (by decide) (fun ao235 gb236 cp237 w238 A239 u240 gegb236 lngb236 => ?_)
  have zu240 := u240.size
  have lt_gb236 := A239.lt
  refine t_assign rfl rfl rfl (t_nil' (hK208 _ _ (c_region (t_move rfl rfl rfl (t_ari rfl rfl rfl rfl rfl (by omega) (t_assign rfl rfl rfl (t_nil' ?_)))))))
  exact hK199 (k + 1, ao235, gb236, cp237, (out ++ [(⟨(nth l k).bh, (nth l k).el⟩ : Sp)])) _ _ (by show l.length - (k + 1) < l.length - k; omega) ⟨rfl, rfl, rfl, rfl, rfl, rfl, rfl, rfl, trivial⟩ ⟨((((u201.next u211 (fun _ _ h => h.elim)).next u220 (fun _ _ h => h.elim)).next u232 (fun _ _ h => h.elim)).next u240 (fun i hi (h : (i = gt ∧ bk192 ≤ i)) => show bk192 ≤ i by first | omega | assumption)), (by omega), A239, (by
    have h9 := timesW_succ (fun _ d => shtS d) l k
    rw [hout]; exact h9.symm)⟩
 have hkl : k = l.length := by omega
 have hol2 : out.length = l.length := by omega
 have hout2 := hout
 rw [hkl] at hout2
 obtain ⟨hT1, hT2⟩ := truths hr hod (tru_sht hod)
 rw [← hout2] at hT1 hT2
 have hA : at1 < 0 → brokP (smR u) (srtS out) = 0 := fun h => hT1 (hat1.1.1 h)
 have htok : ∀ x ∈ out, OkSp x ∧ x.e ≤ 699 := fun x hx => by
   rw [hout2] at hx
   obtain ⟨d, hd, h1, h2⟩ := tru_times (tru_sht hod) hod hx
   exact ⟨h1, by have := h607 d hd; omega⟩
 have hcapT := htA.cap_le
 have hoT : out = l.map shtS := by
   have h9 := timesW_map shtS (Nat.le_refl l.length)
   rw [List.take_length] at h9
   rw [hout2]; exact h9
 have hK : brokP (smR u) (srtS out) = 0 ↔ brokP (smR u) (srtS (l.map shtS)) = 0 := by rw [hoT]
 refine c_exit (hK197 _ _ (c_seq fun K242 hK242 => (c_region ?_)))
 have B243 := (((((B154.kx u157).kx u164).kx u169).kx u195).keep u201 (show ¬ (bk192 ≤ b5) by first | omega | assumption))
 refine t_loadN (vs := [.int .i64 ((smR u).rest), .int .i64 ((smR u).span), .int .i64 ((smR u).work), .int .i64 ((smR u).week), .int .i64 ((smR u).ww)]) Try.isAgg28 Try.sizeOf28 rfl rfl rfl (B243.at.sub 0 5) rfl (t_move rfl rfl rfl (t_call own12 rfl rfl rfl rfl (keepsT_c (smR u) out at_ gt 0 ct _ (htA.sl (fun _ => rfl)) (by omega) hr htok) (fun v244 w245 r247 => ?_)))
 obtain ⟨rfl, u246⟩ := r247
 have zu246 := u246.size
 refine t_assign rfl rfl rfl (t_nil' (hK242 _ _ (c_seq fun K249 hK249 => (c_cut (γ := Nat) (fun zz => [(1, .slice ap ps.length cp), (5, .pointer (some ⟨b5, 0, none⟩)), (6, .slice al l.length cl), (7, .int .i64 at1), (9, .bool (decide (brokP (smR u) (srtS (l.map shtS)) = 0))), (11, .int .i64 1), (12, .slice at_ out.length ct), (182, .bool false)]) (fun zz w => Upd (fun _ => False) w245 w) (fun K251 hK251 => ?_) ?_))))
 ·
  refine c_region (t_move rfl rfl rfl (t_cmp rfl rfl rfl rfl rfl (t_samehd (v := .bool false) rfl (t_move rfl rfl rfl (t_skip rfl rfl rfl (t_skip rfl rfl rfl (t_skip rfl rfl rfl (t_skip rfl rfl rfl (t_pick_f rfl rfl rfl rfl (t_move rfl rfl rfl (t_move rfl rfl rfl (t_cmp rfl rfl rfl rfl rfl (t_samehd (v := .bool true) rfl (t_move rfl rfl rfl (t_move rfl rfl rfl (t_move rfl rfl rfl (t_neB Try.underlying4 rfl rfl rfl rfl (t_same 165 (v := .bool false) rfl (congrArg Value.bool (decide_eq_false (fun h => h (by rw [Bool.eq_iff_iff]; simp only [decide_eq_true_eq]; exact hK)))) (t_pick_t rfl rfl rfl rfl (t_pick_f rfl rfl rfl rfl (t_move rfl rfl rfl (t_move rfl rfl rfl (t_cmp rfl rfl rfl rfl rfl ?_)))))))))))))))))))))))
  refine t_move rfl rfl rfl (t_splitp 171 rfl (fun g171 => ?_) (fun g171 => ?_))
  ·
   refine t_move rfl rfl rfl (t_notp rfl rfl rfl (t_same 173 (v := .bool false) rfl (congrArg Value.bool (decide_eq_false (fun h => h (hA g171)))) (t_pick_t rfl rfl rfl rfl (t_pick_f rfl rfl rfl rfl (t_move rfl rfl rfl (t_move rfl rfl rfl (t_move rfl rfl rfl (t_splitp 178 rfl (fun g178 => ?_) (fun g178 => ?_)))))))))
   ·
    refine t_move rfl rfl rfl (t_notp rfl rfl rfl (t_same 180 (v := .bool false) rfl (congrArg Value.bool (decide_eq_false (fun h => h (hT2 g178)))) (t_pick_t rfl rfl rfl rfl (t_pick_f rfl rfl rfl rfl (t_nil' ?_)))))
    exact hK251 0 _ _ ⟨rfl, rfl, rfl, rfl, rfl, rfl, rfl, rfl, trivial⟩ (Upd.refl _ _)
   refine t_skip rfl rfl rfl (t_skip rfl rfl rfl (t_pick_f rfl rfl rfl rfl (t_pick_f rfl rfl rfl rfl (t_nil' ?_))))
   exact hK251 0 _ _ ⟨rfl, rfl, rfl, rfl, rfl, rfl, rfl, rfl, trivial⟩ (Upd.refl _ _)
  refine t_skip rfl rfl rfl (t_skip rfl rfl rfl (t_pick_f rfl rfl rfl rfl (t_pick_f rfl rfl rfl rfl (t_move rfl rfl rfl (t_move rfl rfl rfl (t_move rfl rfl rfl (t_splitp 178 rfl (fun g178 => ?_) (fun g178 => ?_))))))))
  ·
   refine t_move rfl rfl rfl (t_notp rfl rfl rfl (t_same 180 (v := .bool false) rfl (congrArg Value.bool (decide_eq_false (fun h => h (hT2 g178)))) (t_pick_t rfl rfl rfl rfl (t_pick_f rfl rfl rfl rfl (t_nil' ?_)))))
   exact hK251 0 _ _ ⟨rfl, rfl, rfl, rfl, rfl, rfl, rfl, rfl, trivial⟩ (Upd.refl _ _)
  refine t_skip rfl rfl rfl (t_skip rfl rfl rfl (t_pick_f rfl rfl rfl rfl (t_pick_f rfl rfl rfl rfl (t_nil' ?_))))
  exact hK251 0 _ _ ⟨rfl, rfl, rfl, rfl, rfl, rfl, rfl, rfl, trivial⟩ (Upd.refl _ _)
 intro zz w252 u253
 have zu253 := u253.size
 refine c_cond_f rfl (c_skip (hK249 _ _ (c_cut (γ := Nat) (fun zz => [(1, .slice ap ps.length cp), (5, .pointer (some ⟨b5, 0, none⟩)), (6, .slice al l.length cl), (7, .int .i64 at1), (9, .bool (decide (brokP (smR u) (srtS (l.map shtS)) = 0))), (11, .int .i64 1), (204, .bool false)]) (fun zz w => Upd (fun _ => False) w252 w) (fun K256 hK256 => ?_) ?_)))
 ·
  refine c_drawnM follows (fun _ => False) (.look 0 (.look 1 (.look 2 (.look 3 (.look 4 (.look 5 (.look 6 (.look 7 (.look 8 (.look 9 (.look 10 (.look 11 (.act 12 (.look 13 (.look 14 (.look 15 (.look 16 (.look 17 (.act 18 (.look 19 (.look 20 (.look 21 .done))) .stop)))))) .stop))))))))))))) (by kernel_rfl) fun w259 u260 => ?_
  have zu260 := u260.size
  refine y_move rfl rfl rfl (y_cmp rfl rfl rfl rfl rfl (y_samehd (v := .bool false) rfl (y_move rfl rfl rfl (y_skip rfl rfl rfl (y_skip rfl rfl rfl (y_pick_f rfl rfl rfl rfl (y_move rfl rfl rfl (y_skip rfl rfl rfl (y_skip rfl rfl rfl (y_skip rfl rfl rfl (y_skip rfl rfl rfl (y_skip rfl rfl rfl (s_do (t_skip rfl rfl rfl (s_next (Upd.refl _ _) (y_skip rfl rfl rfl (y_skip rfl rfl rfl (y_skip rfl rfl rfl (y_skip rfl rfl rfl (y_skip rfl rfl rfl (s_do (t_skip rfl rfl rfl (s_next (Upd.refl _ _) ?_)))))))))))))))))))))))
  refine y_skip rfl rfl rfl (y_skip rfl rfl rfl (y_pick_f rfl rfl rfl rfl (s_nil ?_)))
  exact hK256 0 _ _ ⟨rfl, rfl, rfl, rfl, rfl, rfl, rfl, trivial⟩ ((Upd.refl _ _).next u260 (fun _ _ h => h.elim))
 intro zz w257 u258
 have zu258 := u258.size
 refine c_cond_f rfl (c_skip (hK190 _ _ (c_region (t_move rfl rfl rfl (t_ari rfl rfl rfl rfl rfl (by omega) (t_samehd (v := .int .i64 2) rfl (t_assign rfl rfl rfl (t_nil' (hK187 _ _ (WR.weak [(1, .slice ap ps.length cp), (5, .pointer (some ⟨b5, 0, none⟩)), (6, .slice al l.length cl), (7, .int .i64 at1), (9, .bool (decide (brokP (smR u) (srtS (l.map shtS)) = 0))), (11, .int .i64 2)] ⟨rfl, rfl, rfl, rfl, rfl, rfl, trivial⟩ (r_round fun K263 hK263 => (c_seq fun K264 hK264 => (c_seq fun K265 hK265 => (c_region (t_move rfl rfl rfl (t_cmp rfl rfl rfl rfl rfl (t_samehd (v := .bool true) rfl (t_nil' (hK265 _ _ (c_cond_t rfl (c_skip (hK264 _ _ (c_seq fun K266 hK266 => ?_)))))))))))))))))))))))
 refine c_block (c_seq fun K267 hK267 => (c_region (t_bslice (ps := []) (cs := []) (e := 41) rfl rfl ⟨rfl, rfl⟩ (fun w => by kernel_rfl) (fun bk268 w269 ebk268 sbk268 B270 u271 => ?_))))
 have zu271 := u271.size
 refine t_assign rfl rfl rfl (t_nil' (hK267 _ _ (c_seq fun K273 hK273 => (c_seq fun K274 hK274 => (c_region (t_assign rfl rfl rfl (t_nil' (hK274 _ _ (c_block (c_loop (γ := Nat × Option Addr × Nat × Nat × List Sp) (fun gg => [(1, .slice ap ps.length cp), (5, .pointer (some ⟨b5, 0, none⟩)), (6, .slice al l.length cl), (7, .int .i64 at1), (9, .bool (decide (brokP (smR u) (srtS (l.map shtS)) = 0))), (11, .int .i64 2), (12, .slice gg.2.1 gg.2.2.2.2.length gg.2.2.2.1), (13, .int .i64 (gg.1 : Int))]) (fun gg w => Upd (fun i => bk268 ≤ i) w269 w ∧ (gg.1 ≤ l.length) ∧ (Acc encSp 2 41 bk268 w gg.2.1 gg.2.2.1 gg.2.2.2.1 gg.2.2.2.2) ∧ (gg.2.2.2.2 = timesW (fun i d => truS ps d i) l gg.1)) (fun gg => l.length - gg.1) (0, some ⟨bk268, 0, none⟩, bk268, 0, []) ⟨rfl, rfl, rfl, rfl, rfl, rfl, rfl, rfl, trivial⟩ ⟨Upd.refl _ _, (Nat.zero_le _), (Acc.ofRaw (cs := []) B270 (Nat.le_refl _) (Nat.le_refl _) (Nat.zero_le _) (by rfl) (by rfl)), rfl⟩ ?_))))))))))
 intro gg w276 hW K275 hK275
 obtain ⟨k, at_, gt, ct, out⟩ := gg
 change WC _ _ _ _ _ _ [(1, .slice ap ps.length cp), (5, .pointer (some ⟨b5, 0, none⟩)), (6, .slice al l.length cl), (7, .int .i64 at1), (9, .bool (decide (brokP (smR u) (srtS (l.map shtS)) = 0))), (11, .int .i64 2), (12, .slice at_ out.length ct), (13, .int .i64 (k : Int))] _
 change Upd (fun i => bk268 ≤ i) w269 w276 ∧ (k ≤ l.length) ∧ (Acc encSp 2 41 bk268 w276 at_ gt ct out) ∧ (out = timesW (fun i d => truS ps d i) l k) at hW
 obtain ⟨u277, I278, I279, I280⟩ := hW
 have zu277 := u277.size
 have E281 := ((((((((((((((((E6.nx u10).nx u82).nx u89).nx u94).nx u101).nx u113).next u119 (fun i hi (h : bk110 ≤ i) => show False by first | omega | assumption)).nx u157).nx u164).nx u169).nx u195).next u201 (fun i hi (h : bk192 ≤ i) => show False by first | omega | assumption)).nx u246).nx u253).nx u258).nx u271).next u277 (fun i hi (h : bk268 ≤ i) => show False by first | omega | assumption)
 have hk := I278; clear I278
 have htA := I279; clear I279
 have hout := I280; clear I280
 have lt_gt := htA.lt
 have hol : out.length = k := by rw [hout, timesW_len]
 refine c_seq fun K282 hK282 => (c_seq fun K283 hK283 => (c_region (t_move rfl rfl rfl (t_move rfl rfl rfl (t_len Try.underlying30 rfl rfl rfl rfl (t_cmp rfl rfl rfl rfl rfl (t_nil' (hK283 _ _ (c_condp rfl (fun g66 => ?_) (fun g66 => ?_))))))))))
 ·
  have hd9 := hod _ (nth_mem (show k < l.length by omega))
  simp only [okDty, decide_eq_true_eq] at hd9
  refine c_skip (hK282 _ _ (c_seq fun K284 hK284 => (c_block (c_seq fun K285 hK285 => (c_drawnM follows (fun _ => False) (.look 0 (.look 1 (.look 2 (.look 3 (.look 4 (.look 5 (.look 6 (.look 7 (.look 8 (.look 9 (.look 10 (.look 11 (.look 12 (.look 13 .done)))))))))))))) (by kernel_rfl) fun w286 u287 => ?_)))))
  have zu287 := u287.size
  refine y_move rfl rfl rfl (y_move rfl rfl rfl ?_)
  have D289 := ((((((((((((((((D86.keep u89 (fun _ h => h)).keep u94 (fun _ h => h)).keep u101 (fun _ h => h)).keep u113 (fun _ h => h)).keep u119 (fun hb => show ¬ (bk110 ≤ gl) by first | omega | assumption)).keep u157 (fun _ h => h)).keep u164 (fun _ h => h)).keep u169 (fun _ h => h)).keep u195 (fun _ h => h)).keep u201 (fun hb => show ¬ (bk192 ≤ gl) by first | omega | assumption)).keep u246 (fun _ h => h)).keep u253 (fun _ h => h)).keep u258 (fun _ h => h)).keep u271 (fun _ h => h)).keep u277 (fun hb => show ¬ (bk268 ≤ gl) by first | omega | assumption)).keep u287 (fun _ h => h))
  have i290 : k < l.length := (by omega)
  refine y_index (j := k) Try.underlying30 Try.sizeOf40 rfl rfl rfl rfl ((D289.sl (fun _ => rfl)).addr (by omega)) rfl i290 (y_field Try.underlying40 rfl Try.sizeOf38 (0 + k * 4 + 0) rfl rfl rfl rfl (y_field Try.underlying38 rfl Try.sizeOf3 (0 + k * 4 + 0 + 0) rfl rfl rfl rfl ?_))
  have D291 := ((((((((((((((((D86.keep u89 (fun _ h => h)).keep u94 (fun _ h => h)).keep u101 (fun _ h => h)).keep u113 (fun _ h => h)).keep u119 (fun hb => show ¬ (bk110 ≤ gl) by first | omega | assumption)).keep u157 (fun _ h => h)).keep u164 (fun _ h => h)).keep u169 (fun _ h => h)).keep u195 (fun _ h => h)).keep u201 (fun hb => show ¬ (bk192 ≤ gl) by first | omega | assumption)).keep u246 (fun _ h => h)).keep u253 (fun _ h => h)).keep u258 (fun _ h => h)).keep u271 (fun _ h => h)).keep u277 (fun hb => show ¬ (bk268 ≤ gl) by first | omega | assumption)).keep u287 (fun _ h => h))
  refine y_load Try.isAgg3 rfl rfl rfl (((D291.sl (fun _ => rfl)).at_ k (by omega)) 0 _ rfl) (fun h => h) (y_move rfl rfl rfl (y_move rfl rfl rfl ?_))
  have i292 : k < l.length := (by omega)
  refine y_index (j := k) Try.underlying30 Try.sizeOf40 rfl rfl rfl rfl ((D289.sl (fun _ => rfl)).addr (by omega)) rfl i292 (y_field Try.underlying40 rfl Try.sizeOf38 (0 + k * 4 + 2) rfl rfl rfl rfl (y_field Try.underlying38 rfl Try.sizeOf3 (0 + k * 4 + 2 + 1) rfl rfl rfl rfl (y_load Try.isAgg3 rfl rfl rfl (((D291.sl (fun _ => rfl)).at_ k (by omega)) 3 _ rfl) (fun h => h) (y_assign rfl rfl rfl (y_assign rfl rfl rfl (s_nil (hK285 _ _ (c_seq fun K293 hK293 => (c_seq fun K294 hK294 => (c_region (t_move rfl rfl rfl (t_cmp rfl rfl rfl rfl rfl (t_samehd (v := .bool false) rfl (t_nil' (hK294 _ _ (c_cond_f rfl (c_skip (hK293 _ _ (c_seq fun K295 hK295 => (c_seq fun K296 hK296 => (c_region (t_move rfl rfl rfl (t_len Try.underlying26 rfl rfl rfl rfl ?_)))))))))))))))))))))))
  refine t_assign rfl rfl rfl (t_nil' (hK296 _ _ (c_seq fun K297 hK297 => (c_region (t_move rfl rfl rfl (t_cmp rfl rfl rfl rfl rfl (t_samehd (v := .bool true) rfl (t_move rfl rfl rfl (t_move rfl rfl rfl (t_cmp rfl rfl rfl rfl rfl (t_pick_t rfl rfl rfl rfl (t_nil' (hK297 _ _ (c_condp rfl (fun g102 => ?_) (fun g102 => ?_)))))))))))))))
  ·
   have hm0 : (0 : Int) < ps.length := by omega
   have hi1 := Int.emod_nonneg (k : Int) (show (ps.length : Int) ≠ 0 by omega)
   have hi2 := Int.emod_lt_of_pos (k : Int) hm0
   have hi3 := Int.emod_nonneg ((k : Int) + 3) (show (ps.length : Int) ≠ 0 by omega)
   have hi4 := Int.emod_lt_of_pos ((k : Int) + 3) hm0
   have hp1 := hps _ (nth_mem (show k % ps.length < ps.length from Nat.mod_lt _ (by omega)))
   have hp2 := hps _ (nth_mem (show (k + 3) % ps.length < ps.length from Nat.mod_lt _ (by omega)))
   have hm1 := Int.emod_nonneg (nth ps (k % ps.length)) (show (nth l k).bh - (nth l k).bl + 1 ≠ 0 by omega)
   have hm2 := Int.emod_lt_of_pos (nth ps (k % ps.length)) (show 0 < (nth l k).bh - (nth l k).bl + 1 by omega)
   have hm3 := Int.emod_nonneg (nth ps ((k + 3) % ps.length)) (show (nth l k).eh - (nth l k).el + 1 ≠ 0 by omega)
   have hm4 := Int.emod_lt_of_pos (nth ps ((k + 3) % ps.length)) (show 0 < (nth l k).eh - (nth l k).el + 1 by omega)
   refine c_seq fun K298 hK298 => (c_drawnM follows (fun _ => False) (.look 0 (.look 1 (.look 2 (.look 3 (.look 4 (.look 5 (.look 6 (.look 7 (.look 8 (.look 9 (.look 10 (.look 11 (.look 12 (.look 13 (.look 14 (.look 15 (.look 16 (.look 17 (.look 18 (.look 19 .done)))))))))))))))))))) (by kernel_rfl) fun w299 u300 => ?_)
   have zu300 := u300.size
   have E301 := (E281.nx u287).nx u300
   refine y_move rfl rfl rfl (y_move rfl rfl rfl (y_move rfl rfl rfl (y_move rfl rfl rfl (y_rem rfl rfl rfl rfl (by omega) (by omega) ?_))))
   have i302 : (k % ps.length) < ps.length := (Nat.mod_lt _ (by omega))
   refine y_index (j := (k % ps.length)) Try.underlying26 Try.sizeOf5 rfl rfl rfl rfl ((hp.keep E301 (fun _ h => h)).addr (by omega)) (by rw [Int.natCast_emod]) i302 (y_load Try.isAgg5 rfl rfl rfl (((hp.keep E301 (fun _ h => h)).at_ (k % ps.length) (Nat.mod_lt _ (by omega))) 0 _ rfl) (fun h => h) (y_conv Try.underlying5 Try.underlying3 rfl rfl rfl (IntWalk.i64_in _ (by omega)) (y_move rfl rfl rfl (y_move rfl rfl rfl ?_))))
   have D303 := (D289.keep u300 (fun _ h => h))
   have i304 : k < l.length := (by omega)
   refine y_index (j := k) Try.underlying30 Try.sizeOf40 rfl rfl rfl rfl ((D303.sl (fun _ => rfl)).addr (by omega)) rfl i304 (y_field Try.underlying40 rfl Try.sizeOf38 (0 + k * 4 + 0) rfl rfl rfl rfl (y_field Try.underlying38 rfl Try.sizeOf3 (0 + k * 4 + 0 + 1) rfl rfl rfl rfl ?_))
   have D305 := (D289.keep u300 (fun _ h => h))
   refine y_load Try.isAgg3 rfl rfl rfl (((D305.sl (fun _ => rfl)).at_ k (by omega)) 1 _ rfl) (fun h => h) (y_move rfl rfl rfl (y_ari rfl rfl rfl rfl rfl (by omega) (y_ari rfl rfl rfl rfl rfl (by omega) (y_rem rfl rfl rfl rfl (by omega) (by omega) (y_ari rfl rfl rfl rfl rfl (by omega) (y_assign rfl rfl rfl (s_nil (hK298 _ _ (c_drawnM follows (fun _ => False) (.look 0 (.look 1 (.look 2 (.look 3 (.look 4 (.look 5 (.look 6 (.look 7 (.look 8 (.look 9 (.look 10 (.look 11 (.look 12 (.look 13 (.look 14 (.look 15 (.look 16 (.look 17 (.look 18 (.look 19 (.look 20 .done))))))))))))))))))))) (by kernel_rfl) fun w306 u307 => ?_)))))))))
   have zu307 := u307.size
   have E308 := E301.nx u307
   refine y_move rfl rfl rfl (y_move rfl rfl rfl (y_move rfl rfl rfl (y_ari rfl rfl rfl rfl rfl (by omega) (y_move rfl rfl rfl (y_rem rfl rfl rfl rfl (by omega) (by omega) ?_)))))
   have i309 : ((k + 3) % ps.length) < ps.length := (Nat.mod_lt _ (by omega))
   refine y_index (j := ((k + 3) % ps.length)) Try.underlying26 Try.sizeOf5 rfl rfl rfl rfl ((hp.keep E308 (fun _ h => h)).addr (by omega)) (by rw [Int.natCast_emod]; rfl) i309 (y_load Try.isAgg5 rfl rfl rfl (((hp.keep E308 (fun _ h => h)).at_ ((k + 3) % ps.length) (Nat.mod_lt _ (by omega))) 0 _ rfl) (fun h => h) (y_conv Try.underlying5 Try.underlying3 rfl rfl rfl (IntWalk.i64_in _ (by omega)) (y_move rfl rfl rfl (y_move rfl rfl rfl (y_move rfl rfl rfl ?_)))))
   have D310 := (D303.keep u307 (fun _ h => h))
   have i311 : k < l.length := (by omega)
   refine y_index (j := k) Try.underlying30 Try.sizeOf40 rfl rfl rfl rfl ((D310.sl (fun _ => rfl)).addr (by omega)) rfl i311 (y_field Try.underlying40 rfl Try.sizeOf38 (0 + k * 4 + 2) rfl rfl rfl rfl (y_field Try.underlying38 rfl Try.sizeOf3 (0 + k * 4 + 2 + 0) rfl rfl rfl rfl ?_))
   have D312 := (D303.keep u307 (fun _ h => h))
   refine y_load Try.isAgg3 rfl rfl rfl (((D312.sl (fun _ => rfl)).at_ k (by omega)) 2 _ rfl) (fun h => h) (y_ari rfl rfl rfl rfl rfl (by omega) (y_ari rfl rfl rfl rfl rfl (by omega) (y_rem rfl rfl rfl rfl (by omega) (by omega) (y_ari rfl rfl rfl rfl rfl (by omega) (y_assign rfl rfl rfl (s_nil (hK295 _ _ (c_region (t_move rfl rfl rfl (t_move rfl rfl rfl (t_move rfl rfl rfl (t_build (ps := [(0, .int .i64 ((nth l k).bl + ((nth ps (k % ps.length)) % ((((nth l k).bh) - ((nth l k).bl)) + 1)))), (1, .int .i64 (((nth l k).eh) - ((nth ps ((k + 3) % ps.length)) % ((((nth l k).eh) - ((nth l k).el)) + 1))))]) (v := .agg #[.int .i64 ((nth l k).bl + ((nth ps (k % ps.length)) % ((((nth l k).bh) - ((nth l k).bl)) + 1))), .int .i64 (((nth l k).eh) - ((nth ps ((k + 3) % ps.length)) % ((((nth l k).eh) - ((nth l k).el)) + 1)))]) rfl rfl ⟨rfl, rfl⟩ (fun w => by kernel_rfl) (t_bslice (ps := [(0, .agg #[.int .i64 ((nth l k).bl + ((nth ps (k % ps.length)) % ((((nth l k).bh) - ((nth l k).bl)) + 1))), .int .i64 (((nth l k).eh) - ((nth ps ((k + 3) % ps.length)) % ((((nth l k).eh) - ((nth l k).el)) + 1)))])]) (cs := [.int .i64 ((nth l k).bl + ((nth ps (k % ps.length)) % ((((nth l k).bh) - ((nth l k).bl)) + 1))), .int .i64 (((nth l k).eh) - ((nth ps ((k + 3) % ps.length)) % ((((nth l k).eh) - ((nth l k).el)) + 1)))]) (e := 41) rfl rfl ⟨rfl, rfl⟩ (fun w => by kernel_rfl) (fun bk313 w314 ebk313 sbk313 B315 u316 => ?_))))))))))))))
   have zu316 := u316.size
   have D318 := ((((htA.keep u287 (fun _ h => h)).keep u300 (fun _ h => h)).keep u307 (fun _ h => h)).keep u316 (fun _ h => h))
   refine t_append (z := .agg #[.int .i64 0, .int .i64 0]) (bytes := 16) (k := 2) (base := bk268) (⟨((nth l k).bl + ((nth ps (k % ps.length)) % ((((nth l k).bh) - ((nth l k).bl)) + 1))), (((nth l k).eh) - ((nth ps ((k + 3) % ps.length)) % ((((nth l k).eh) - ((nth l k).el)) + 1)))⟩ : Sp) Try.underlying36 (by kernel_rfl) rfl (by decide) (fun _ => rfl) (by intro x; simp [encSp, Value.oneCell']) rfl rfl rfl rfl D318 B315 (by omega) (by omega) (by decide) (fun ao319 gb320 cp321 w322 A323 u324 gegb320 lngb320 => ?_)
   have zu324 := u324.size
   have lt_gb320 := A323.lt
   refine t_assign rfl rfl rfl (t_nil' (hK284 _ _ (c_region (t_move rfl rfl rfl (t_ari rfl rfl rfl rfl rfl (by omega) (t_assign rfl rfl rfl (t_nil' ?_)))))))
   exact hK275 (k + 1, ao319, gb320, cp321, (out ++ [(⟨((nth l k).bl + ((nth ps (k % ps.length)) % ((((nth l k).bh) - ((nth l k).bl)) + 1))), (((nth l k).eh) - ((nth ps ((k + 3) % ps.length)) % ((((nth l k).eh) - ((nth l k).el)) + 1)))⟩ : Sp)])) _ _ (by show l.length - (k + 1) < l.length - k; omega) ⟨rfl, rfl, rfl, rfl, rfl, rfl, rfl, rfl, trivial⟩ ⟨(((((u277.next u287 (fun _ _ h => h.elim)).next u300 (fun _ _ h => h.elim)).next u307 (fun _ _ h => h.elim)).next u316 (fun _ _ h => h.elim)).next u324 (fun i hi (h : (i = gt ∧ bk268 ≤ i)) => show bk268 ≤ i by first | omega | assumption)), (by omega), A323, (by
     have h9 := timesW_succ (fun i d => truS ps d i) l k
     have e9 : truS ps (nth l k) k = (⟨((nth l k).bl + ((nth ps (k % ps.length)) % ((((nth l k).bh) - ((nth l k).bl)) + 1))), (((nth l k).eh) - ((nth ps ((k + 3) % ps.length)) % ((((nth l k).eh) - ((nth l k).el)) + 1)))⟩ : Sp) := by unfold truS; rw [if_neg (by omega)]
     rw [hout, ← e9]; exact h9.symm)⟩
  refine c_skip (hK295 _ _ (c_region (t_move rfl rfl rfl (t_move rfl rfl rfl (t_move rfl rfl rfl (t_build (ps := [(0, .int .i64 ((nth l k).bl)), (1, .int .i64 ((nth l k).eh))]) (v := .agg #[.int .i64 ((nth l k).bl), .int .i64 ((nth l k).eh)]) rfl rfl ⟨rfl, rfl⟩ (fun w => by kernel_rfl) (t_bslice (ps := [(0, .agg #[.int .i64 ((nth l k).bl), .int .i64 ((nth l k).eh)])]) (cs := [.int .i64 ((nth l k).bl), .int .i64 ((nth l k).eh)]) (e := 41) rfl rfl ⟨rfl, rfl⟩ (fun w => by kernel_rfl) (fun bk326 w327 ebk326 sbk326 B328 u329 => ?_))))))))
  have zu329 := u329.size
  have D331 := ((htA.keep u287 (fun _ h => h)).keep u329 (fun _ h => h))
  refine t_append (z := .agg #[.int .i64 0, .int .i64 0]) (bytes := 16) (k := 2) (base := bk268) (⟨(nth l k).bl, (nth l k).eh⟩ : Sp) Try.underlying36 (by kernel_rfl) rfl (by decide) (fun _ => rfl) (by intro x; simp [encSp, Value.oneCell']) rfl rfl rfl rfl D331 B328 (by omega) (by omega) (by decide) (fun ao332 gb333 cp334 w335 A336 u337 gegb333 lngb333 => ?_)
  have zu337 := u337.size
  have lt_gb333 := A336.lt
  refine t_assign rfl rfl rfl (t_nil' (hK284 _ _ (c_region (t_move rfl rfl rfl (t_ari rfl rfl rfl rfl rfl (by omega) (t_assign rfl rfl rfl (t_nil' ?_)))))))
  exact hK275 (k + 1, ao332, gb333, cp334, (out ++ [(⟨(nth l k).bl, (nth l k).eh⟩ : Sp)])) _ _ (by show l.length - (k + 1) < l.length - k; omega) ⟨rfl, rfl, rfl, rfl, rfl, rfl, rfl, rfl, trivial⟩ ⟨(((u277.next u287 (fun _ _ h => h.elim)).next u329 (fun _ _ h => h.elim)).next u337 (fun i hi (h : (i = gt ∧ bk268 ≤ i)) => show bk268 ≤ i by first | omega | assumption)), (by omega), A336, (by
    have h9 := timesW_succ (fun i d => truS ps d i) l k
    have e9 : truS ps (nth l k) k = (⟨(nth l k).bl, (nth l k).eh⟩ : Sp) := by unfold truS; rw [if_pos (by omega)]; rfl
    rw [hout, ← e9]; exact h9.symm)⟩
 have hkl : k = l.length := by omega
 have hol2 : out.length = l.length := by omega
 have hout2 := hout
 rw [hkl] at hout2
 obtain ⟨hT1, hT2⟩ := truths hr hod (tru_tru hod)
 rw [← hout2] at hT1 hT2
 have hA : at1 < 0 → brokP (smR u) (srtS out) = 0 := fun h => hT1 (hat1.1.1 h)
 have htok : ∀ x ∈ out, OkSp x ∧ x.e ≤ 699 := fun x hx => by
   rw [hout2] at hx
   obtain ⟨d, hd, h1, h2⟩ := tru_times (tru_tru hod) hod hx
   exact ⟨h1, by have := h607 d hd; omega⟩
 have hcapT := htA.cap_le
 refine c_exit (hK273 _ _ (c_seq fun K339 hK339 => (c_region ?_)))
 have B340 := (((((B243.kx u246).kx u253).kx u258).kx u271).keep u277 (show ¬ (bk268 ≤ b5) by first | omega | assumption))
 refine t_loadN (vs := [.int .i64 ((smR u).rest), .int .i64 ((smR u).span), .int .i64 ((smR u).work), .int .i64 ((smR u).week), .int .i64 ((smR u).ww)]) Try.isAgg28 Try.sizeOf28 rfl rfl rfl (B340.at.sub 0 5) rfl (t_move rfl rfl rfl (t_call own12 rfl rfl rfl rfl (keepsT_c (smR u) out at_ gt 0 ct _ (htA.sl (fun _ => rfl)) (by omega) hr htok) (fun v341 w342 r344 => ?_)))
 obtain ⟨rfl, u343⟩ := r344
 have zu343 := u343.size
 refine t_assign rfl rfl rfl (t_nil' (hK339 _ _ (c_seq fun K346 hK346 => (c_cut (γ := Nat) (fun zz => [(1, .slice ap ps.length cp), (5, .pointer (some ⟨b5, 0, none⟩)), (6, .slice al l.length cl), (7, .int .i64 at1), (9, .bool (decide (brokP (smR u) (srtS (l.map shtS)) = 0))), (11, .int .i64 2), (12, .slice at_ out.length ct), (182, .bool false)]) (fun zz w => Upd (fun _ => False) w342 w) (fun K348 hK348 => ?_) ?_))))
 ·
  refine c_region (t_move rfl rfl rfl (t_cmp rfl rfl rfl rfl rfl (t_samehd (v := .bool false) rfl (t_move rfl rfl rfl (t_skip rfl rfl rfl (t_skip rfl rfl rfl (t_skip rfl rfl rfl (t_skip rfl rfl rfl (t_pick_f rfl rfl rfl rfl (t_move rfl rfl rfl (t_move rfl rfl rfl (t_cmp rfl rfl rfl rfl rfl (t_samehd (v := .bool false) rfl (t_move rfl rfl rfl (t_skip rfl rfl rfl (t_skip rfl rfl rfl (t_skip rfl rfl rfl (t_pick_f rfl rfl rfl rfl (t_pick_f rfl rfl rfl rfl (t_move rfl rfl rfl (t_move rfl rfl rfl (t_cmp rfl rfl rfl rfl rfl (t_move rfl rfl rfl ?_)))))))))))))))))))))))
  refine t_splitp 171 rfl (fun g171 => ?_) (fun g171 => ?_)
  ·
   refine t_move rfl rfl rfl (t_notp rfl rfl rfl (t_same 173 (v := .bool false) rfl (congrArg Value.bool (decide_eq_false (fun h => h (hA g171)))) (t_pick_t rfl rfl rfl rfl (t_pick_f rfl rfl rfl rfl (t_move rfl rfl rfl (t_move rfl rfl rfl (t_move rfl rfl rfl (t_splitp 178 rfl (fun g178 => ?_) (fun g178 => ?_)))))))))
   ·
    refine t_move rfl rfl rfl (t_notp rfl rfl rfl (t_same 180 (v := .bool false) rfl (congrArg Value.bool (decide_eq_false (fun h => h (hT2 g178)))) (t_pick_t rfl rfl rfl rfl (t_pick_f rfl rfl rfl rfl (t_nil' ?_)))))
    exact hK348 0 _ _ ⟨rfl, rfl, rfl, rfl, rfl, rfl, rfl, rfl, trivial⟩ (Upd.refl _ _)
   refine t_skip rfl rfl rfl (t_skip rfl rfl rfl (t_pick_f rfl rfl rfl rfl (t_pick_f rfl rfl rfl rfl (t_nil' ?_))))
   exact hK348 0 _ _ ⟨rfl, rfl, rfl, rfl, rfl, rfl, rfl, rfl, trivial⟩ (Upd.refl _ _)
  refine t_skip rfl rfl rfl (t_skip rfl rfl rfl (t_pick_f rfl rfl rfl rfl (t_pick_f rfl rfl rfl rfl (t_move rfl rfl rfl (t_move rfl rfl rfl (t_move rfl rfl rfl (t_splitp 178 rfl (fun g178 => ?_) (fun g178 => ?_))))))))
  ·
   refine t_move rfl rfl rfl (t_notp rfl rfl rfl (t_same 180 (v := .bool false) rfl (congrArg Value.bool (decide_eq_false (fun h => h (hT2 g178)))) (t_pick_t rfl rfl rfl rfl (t_pick_f rfl rfl rfl rfl (t_nil' ?_)))))
   exact hK348 0 _ _ ⟨rfl, rfl, rfl, rfl, rfl, rfl, rfl, rfl, trivial⟩ (Upd.refl _ _)
  refine t_skip rfl rfl rfl (t_skip rfl rfl rfl (t_pick_f rfl rfl rfl rfl (t_pick_f rfl rfl rfl rfl (t_nil' ?_))))
  exact hK348 0 _ _ ⟨rfl, rfl, rfl, rfl, rfl, rfl, rfl, rfl, trivial⟩ (Upd.refl _ _)
 intro zz w349 u350
 have zu350 := u350.size
 refine c_cond_f rfl (c_skip (hK346 _ _ (c_cut (γ := Nat) (fun zz => [(1, .slice ap ps.length cp), (5, .pointer (some ⟨b5, 0, none⟩)), (6, .slice al l.length cl), (7, .int .i64 at1), (9, .bool (decide (brokP (smR u) (srtS (l.map shtS)) = 0))), (11, .int .i64 2), (204, .bool false)]) (fun zz w => Upd (fun _ => False) w349 w) (fun K353 hK353 => ?_) ?_)))
 ·
  refine c_drawnM follows (fun _ => False) (.look 0 (.look 1 (.look 2 (.look 3 (.look 4 (.look 5 (.look 6 (.look 7 (.look 8 (.look 9 (.look 10 (.look 11 (.act 12 (.look 13 (.look 14 (.look 15 (.look 16 (.look 17 (.act 18 (.look 19 (.look 20 (.look 21 .done))) .stop)))))) .stop))))))))))))) (by kernel_rfl) fun w356 u357 => ?_
  have zu357 := u357.size
  refine y_move rfl rfl rfl (y_cmp rfl rfl rfl rfl rfl (y_samehd (v := .bool false) rfl (y_move rfl rfl rfl (y_skip rfl rfl rfl (y_skip rfl rfl rfl (y_pick_f rfl rfl rfl rfl (y_move rfl rfl rfl (y_skip rfl rfl rfl (y_skip rfl rfl rfl (y_skip rfl rfl rfl (y_skip rfl rfl rfl (y_skip rfl rfl rfl (s_do (t_skip rfl rfl rfl (s_next (Upd.refl _ _) (y_skip rfl rfl rfl (y_skip rfl rfl rfl (y_skip rfl rfl rfl (y_skip rfl rfl rfl (y_skip rfl rfl rfl (s_do (t_skip rfl rfl rfl (s_next (Upd.refl _ _) ?_)))))))))))))))))))))))
  refine y_skip rfl rfl rfl (y_skip rfl rfl rfl (y_pick_f rfl rfl rfl rfl (s_nil ?_)))
  exact hK353 0 _ _ ⟨rfl, rfl, rfl, rfl, rfl, rfl, rfl, trivial⟩ ((Upd.refl _ _).next u357 (fun _ _ h => h.elim))
 intro zz w354 u355
 have zu355 := u355.size
 refine c_cond_f rfl (c_skip (hK266 _ _ (c_region (t_move rfl rfl rfl (t_ari rfl rfl rfl rfl rfl (by omega) (t_samehd (v := .int .i64 3) rfl (t_assign rfl rfl rfl (t_nil' (hK263 _ _ (WR.weak [(1, .slice ap ps.length cp), (5, .pointer (some ⟨b5, 0, none⟩)), (6, .slice al l.length cl), (7, .int .i64 at1), (9, .bool (decide (brokP (smR u) (srtS (l.map shtS)) = 0))), (11, .int .i64 3)] ⟨rfl, rfl, rfl, rfl, rfl, rfl, trivial⟩ (r_round fun K360 hK360 => (c_seq fun K361 hK361 => (c_seq fun K362 hK362 => (c_region (t_move rfl rfl rfl (t_cmp rfl rfl rfl rfl rfl (t_samehd (v := .bool false) rfl (t_nil' (hK362 _ _ (c_cond_f rfl (c_exit (hK103 _ _ (c_seq fun K363 hK363 => ?_)))))))))))))))))))))))
 refine c_region (t_call own13 rfl rfl rfl rfl (known_c _) (fun v364 w365 r367 => ?_))
 obtain ⟨rfl, u366⟩ := r367
 have zu366 := u366.size
 refine t_assign rfl rfl rfl (t_nil' (hK363 _ _ (c_ret (f_ret1 (v := .bool true) Try.results3 rfl ?_))))
 exact ⟨rfl, ((((E281.nx u343).nx u350).nx u355).nx u366)⟩

end Go.Proofs.Ytagmodjadmecdaa
