/-
  No earlier: Next. Conditions: none.
-/
import Derived.Test.YtagmodjadmecdaaA18
namespace Go.Proofs.Ytagmodjadmecdaa
open Go Go.RowKit

theorem mx_perm {a b : List Sp} (h : a.Perm b) : ∀ f : Int, a.foldl (fun e s => max e s.e) f = b.foldl (fun e s => max e s.e) f := by
  induction h with
  | nil => intro f; rfl
  | cons x _ ih => intro f; exact ih _
  | swap x y l => intro f; show l.foldl _ (max (max f y.e) x.e) = l.foldl _ (max (max f x.e) y.e); rw [show max (max f y.e) x.e = max (max f x.e) y.e by omega]
  | trans _ _ h1 h2 => intro f; exact (h1 f).trans (h2 f)
/-- No earlier than all duties have ended. -/
def mxD (l : List Dty) (f : Int) (k : Nat) : Int := (l.take k).foldl (fun e d => max e d.eh) f
theorem mxD_succ {l : List Dty} {f : Int} {k : Nat} (hk : k < l.length) : mxD l f (k + 1) = max (mxD l f k) (nth l k).eh := by unfold mxD; rw [take_nth hk, List.foldl_append]; rfl
theorem mxD_eq (l : List Dty) (f : Int) : mxF (srtS (l.map lngS)) f (srtS (l.map lngS)).length = mxD l f l.length := by
  unfold mxF mxD
  rw [List.take_length, List.take_length, mx_perm (srt_perm _) f, List.foldl_map]; rfl
theorem mxF_ge {l : List Sp} {f : Int} : ∀ k, k ≤ l.length → f ≤ mxF l f k
  | 0, _ => Int.le_refl _
  | k + 1, hk => by have := mxF_ge (l := l) (f := f) k (by omega); rw [mxF_succ (by omega)]; omega
theorem mxF_mem {l : List Sp} {f : Int} : ∀ k, k ≤ l.length → ∀ i, i < k → (nth l i).e ≤ mxF l f k
  | 0, _, i, h => absurd h (Nat.not_lt_zero _)
  | k + 1, hk, i, hi => by
    rw [mxF_succ (by omega)]
    rcases Nat.lt_or_ge i k with h | h
    · have := mxF_mem (l := l) (f := f) k (by omega) i h; omega
    · rw [show i = k by omega]; omega
theorem mxF_all {l : List Sp} {f : Int} {s : Sp} (hs : s ∈ l) : s.e ≤ mxF l f l.length := by
  obtain ⟨i, hi, rfl⟩ := List.getElem_of_mem hs
  have := mxF_mem (l := l) (f := f) l.length (Nat.le_refl _) i hi
  rwa [nth_eq hi] at this
theorem okD2 {b e : Int} (h0 : 0 ≤ b) (h1 : b ≤ e) (h2 : e ≤ 20160) : okDty ⟨b, b, e, e⟩ = true := by
  unfold okDty; rw [decide_eq_true_eq]; simp only []; omega
/-- What Rested says of duties that keep the rules and a new one. -/
theorem rest_new {r : Rul} {l : List Dty} {b e a rule : Int} (hr : okRul r = true) (hl : ∀ d ∈ l, okDty d = true) (hd : okDty ⟨b, b, e, e⟩ = true) (h : RestR r (l ++ [⟨b, b, e, e⟩]) a rule) (h0 : brokP r (srtS (l.map lngS)) = 0) :
    (brokP r (insS ⟨b, e⟩ (srtS (l.map lngS))) = 0 → a = -1) ∧ (brokP r (insS ⟨b, e⟩ (srtS (l.map lngS))) ≠ 0 → a = (l.length : Int) ∧ 0 < rule) := by
  have hl2 := ok_snoc hl hd
  obtain ⟨h1, h2, h3, h4, _⟩ := rest_at hr hl2 h
  have h5 := rest_first hr hl2 h l.length (by simp)
  rw [lng_snoc] at h1
  have e1 : brkK r (l ++ [⟨b, b, e, e⟩]) l.length = brokP r (srtS (l.map lngS)) := by unfold brkK; rw [List.take_left]
  rw [e1] at h5
  have h6 := h5.1 h0
  rw [List.length_append, List.length_singleton] at h2
  constructor
  · intro hb
    have := h1.2 hb
    omega
  · intro hb
    have : ¬ a < 0 := fun hc => hb (h1.1 hc)
    have h7 : rule ≠ 0 := fun hc => this (h3.2 hc)
    omega
theorem ins_last {s : Sp} : ∀ {l : List Sp}, (∀ x ∈ l, OkSp x ∧ x.e ≤ s.b) → s.b < s.e → insS s l = l ++ [s]
  | [], _, _ => rfl
  | x :: l, h, hs => by
    have h1 := h x (by simp)
    unfold insS
    rw [if_pos (by unfold OkSp at h1; unfold LtS; omega), ins_last (fun y hy => h y (by simp [hy])) hs]; rfl
theorem sh_last {r : Rul} {t len : Int} (hn : 0 < len) : ∀ (l : List Sp) (x : Shf), (∀ s ∈ l, OkSp s ∧ s.e ≤ t) → x.e ≤ t → 0 ≤ x.w → ∃ ys b w, shGo r x (l ++ [⟨t, t + len⟩]) = ys ++ [⟨b, t + len, w⟩] ∧ len ≤ w
  | [], x, _, hx, hw => by
    show ∃ ys b w, shGo r x [⟨t, t + len⟩] = ys ++ [⟨b, t + len, w⟩] ∧ len ≤ w
    rw [shGo]
    split
    · refine ⟨[], x.b, x.w + (t + len - t), ?_, by omega⟩
      show [(⟨x.b, max x.e (t + len), _⟩ : Shf)] = _
      rw [show max x.e (t + len) = t + len by omega]; rfl
    · exact ⟨[x], t, t + len - t, rfl, by omega⟩
  | s :: l, x, h, hx, hw => by
    have h1 := h s (by simp)
    have h2 := h1.1; unfold OkSp at h2
    show ∃ ys b w, shGo r x (s :: (l ++ [⟨t, t + len⟩])) = ys ++ [⟨b, t + len, w⟩] ∧ len ≤ w
    rw [shGo]
    split
    · exact sh_last hn l _ (fun y hy => h y (by simp [hy])) (by show max x.e s.e ≤ t; omega) (by show 0 ≤ x.w + (s.e - s.b); omega)
    · obtain ⟨ys, b, w, e, hq⟩ := sh_last (r := r) hn l ⟨s.b, s.e, s.e - s.b⟩ (fun y hy => h y (by simp [hy])) h1.2 (by show 0 ≤ s.e - s.b; omega)
      exact ⟨x :: ys, b, w, by rw [e]; rfl, hq⟩
theorem shs_last {r : Rul} {t len : Int} (hn : 0 < len) {l : List Sp} (h : ∀ s ∈ l, OkSp s ∧ s.e ≤ t) : ∃ ys b w, shiftsP r (insS ⟨t, t + len⟩ l) = ys ++ [⟨b, t + len, w⟩] ∧ len ≤ w := by
  rw [ins_last h (by show t < t + len; omega)]
  match l, h with
  | [], _ => exact ⟨[], t, t + len - t, rfl, by omega⟩
  | s :: l, h => exact sh_last hn l _ (fun y hy => h y (by simp [hy])) (h s (by simp)).2 (by have := (h s (by simp)).1; unfold OkSp at this; show 0 ≤ s.e - s.b; omega)
theorem shs_end {r : Rul} {t len : Int} {l : List Dty} (hn : 0 < len) {f : Int} (hl : ∀ d ∈ l, okDty d = true) (ht : mxF (srtS (l.map lngS)) f (srtS (l.map lngS)).length ≤ t) {sh : List Shf} (h : sh = shiftsP r (srtS ((l ++ [(⟨t, t, t + len, t + len⟩ : Dty)]).map lngS))) : 0 < sh.length ∧ (nth sh (sh.length - 1)).e = t + len ∧ len ≤ (nth sh (sh.length - 1)).w := by
  rw [lng_snoc] at h
  obtain ⟨ys, b, w, e, hq⟩ := shs_last (r := r) hn (l := srtS (l.map lngS)) (t := t) (fun s hs => ⟨lngs_ok hl s hs, by have := mxF_all (f := f) hs; omega⟩)
  have e2 : sh = ys ++ [⟨b, t + len, w⟩] := h.trans e
  subst e2
  have e3 : nth (ys ++ [(⟨b, t + len, w⟩ : Shf)]) ((ys ++ [(⟨b, t + len, w⟩ : Shf)]).length - 1) = ⟨b, t + len, w⟩ := by
    rw [nth_eq (by simp)]; simp
  rw [e3]
  exact ⟨by simp, rfl, hq⟩
theorem sh_few {r : Rul} {l : List Dty} {sh : List Shf} (e : sh = shiftsP r (srtS (l.map lngS))) : sh.length ≤ l.length := by
  rw [e]; have h := shifts_len (r := r) (l := srtS (l.map lngS)); rw [srt_len, List.length_map] at h; exact h

theorem Next_v {r : Rul} {l : List Dty} (al : Option Addr) (bl ol cl : Nat) (f len : Int) (w0 : World) (hl : Sl encDty 4 w0 al bl ol l) (hc : chkRD r l = 0) (hf : 0 ≤ f ∧ f ≤ 20160) (hn : 1 ≤ len ∧ len ≤ 20160) (hpos : 0 < w0.heap.size) :
    CallsV Try.prog 14 [.agg #[.int .i64 r.rest, .int .i64 r.span, .int .i64 r.work, .int .i64 r.week, .int .i64 r.ww], .slice al l.length cl, .int .i64 f, .int .i64 len] w0 (fun v w' =>
      (v = .tuple #[.int .i64 0, .int .i64 9] ∧ brokP r (srtS (l.map lngS)) ≠ 0 ∧ Ext w0 w') ∨
      (∃ t, v = .tuple #[.int .i64 t, .int .i64 0] ∧ brokP r (srtS (l.map lngS)) = 0 ∧ (mxF (srtS (l.map lngS)) f (srtS (l.map lngS)).length ≤ t ∧ t + len ≤ 20160 ∧ brokP r (insS ⟨t, t + len⟩ (srtS (l.map lngS))) = 0 ∧ ∀ u, mxF (srtS (l.map lngS)) f (srtS (l.map lngS)).length ≤ u → u < t → brokP r (insS ⟨u, u + len⟩ (srtS (l.map lngS))) ≠ 0) ∧ Ext w0 w') ∨
      (v = .tuple #[.int .i64 0, .int .i64 7] ∧ brokP r (srtS (l.map lngS)) = 0 ∧ (∀ u, mxF (srtS (l.map lngS)) f (srtS (l.map lngS)).length ≤ u → u + len ≤ 20160 → brokP r (insS ⟨u, u + len⟩ (srtS (l.map lngS))) ≠ 0) ∧ Ext w0 w')) :=
  (Next_c r l al bl ol cl f len w0 hl (by have := (chk_ok hc).2.1; omega) hpos).mono fun v w' ⟨⟨t, e, h1, h2⟩, u⟩ => by
    rcases h2 with ⟨h2, _⟩ | ⟨_, h2, _⟩ | ⟨_, _, ⟨h2, rfl, rfl⟩ | ⟨h2, ⟨rfl, h3⟩ | ⟨rfl, rfl, h3⟩⟩⟩
    · exact absurd hc h2
    · exact absurd ⟨hf, hn⟩ h2
    · exact .inl ⟨h1, h2, u⟩
    · exact .inr (.inl ⟨t, h1, h2, h3, u⟩)
    · exact .inr (.inr ⟨h1, h2, h3, u⟩)

theorem own4 : Own Try.prog 4 := ⟨Try.f4, Try.func4, by kernel_rfl, by kernel_rfl⟩

set_option maxHeartbeats 2000000 in
theorem CrewEarliest_c (u : U5) (xs : List U4) (ao : Option Addr) (b o cap : Nat) (y : U5) (w0 : World) (hu : okU5 u) (hx : Sl encU4 4 w0 ao b o xs) (hxl : xs.length ≤ 9223372036854775807) (hxs : ∀ x ∈ xs, okU4 x) (hy : (0 ≤ y.a ∧ y.a ≤ 65535) ∧ (0 ≤ y.b ∧ y.b ≤ 255) ∧ (0 ≤ y.c ∧ y.c ≤ 255) ∧ (0 ≤ y.d ∧ y.d ≤ 255) ∧ (0 ≤ y.e ∧ y.e ≤ 255)) :
    CallsV Try.prog 4 [.agg #[.int .u8 u.a, .int .u8 u.b, .int .u8 u.c, .int .u8 u.d, .int .u8 u.e, .slice ao xs.length cap], .agg #[.int .u16 y.a, .int .u8 y.b, .int .u8 y.c, .int .u8 y.d, .int .u8 y.e]] w0 (fun v w' => v = .bool true ∧ Ext w0 w') := by
 have hr := smR_ok hu
 obtain ⟨f, hfe⟩ : ∃ f, f = y.a % 20161 := ⟨_, rfl⟩
 obtain ⟨len, hne⟩ : ∃ n, n = 1 + y.b % 90 := ⟨_, rfl⟩
 have hf : 0 ≤ f ∧ f ≤ 20160 := by omega
 have hlen : 1 ≤ len ∧ len ≤ 20160 := by omega
 have hlen2 : len ≤ 90 := by omega
 refine f_enter (N := 282) Try.func4 rfl rfl rfl (c_seq fun K1 hK1 => (c_region (t_box (cs := [.int .u8 u.a, .int .u8 u.b, .int .u8 u.c, .int .u8 u.d, .int .u8 u.e, .slice ao xs.length cap]) rfl rfl rfl rfl (fun bk2 w3 ebk2 sbk2 B4 u5 => ?_))))
 have zu5 := u5.size
 refine t_box (cs := [.int .u16 y.a, .int .u8 y.b, .int .u8 y.c, .int .u8 y.d, .int .u8 y.e]) rfl rfl rfl rfl (fun bk7 w8 ebk7 sbk7 B9 u10 => ?_)
 have zu10 := u10.size
 have E11 := ((Upd.refl (fun _ => False) w0).nx u5).nx u10
 refine t_assign rfl rfl rfl (t_nil' (hK1 _ _ (c_cut (γ := Nat × Nat × Nat × Option Addr × Nat × Nat × List Dty) (fun gg => [(5, .pointer (some ⟨gg.2.1, 0, none⟩)), (6, .slice gg.2.2.2.1 gg.2.2.2.2.2.2.length gg.2.2.2.2.2.1), (7, .int .u16 y.a), (8, .int .u8 y.b), (9, .pointer (some ⟨gg.2.2.1, 0, none⟩))]) (fun gg w => Upd (fun _ => False) w8 w ∧ (Blk w gg.2.1 28 [.int .i64 ((smR u).rest), .int .i64 ((smR u).span), .int .i64 ((smR u).work), .int .i64 ((smR u).week), .int .i64 ((smR u).ww)]) ∧ (Blk w gg.2.2.1 46 [.int .u8 y.c, .int .u8 y.d, .int .u8 y.e]) ∧ (Acc encDty 4 40 gg.1 w gg.2.2.2.1 gg.2.2.2.2.1 gg.2.2.2.2.2.1 gg.2.2.2.2.2.2) ∧ (gg.2.2.2.2.2.2 = dsOf xs 6) ∧ (w8.heap.size ≤ gg.2.1 ∧ w8.heap.size ≤ gg.2.2.1 ∧ gg.2.1 ≠ gg.2.2.1 ∧ w8.heap.size ≤ gg.1)) (fun K13 hK13 => ?_) ?_)))
 ·
  refine c_drawnM follows (fun _ => False) (.look 0 (.look 2 (.look 4 (.look 5 (.look 6 (.look 7 (.look 8 (.look 9 (.act 1 (.act 3 (.act 10 (.act 11 (.act 12 (.look 13 (.look 14 (.look 15 (.act 16 .done .stop)))) .stop) .stop) (.act 11 (.act 10 (.act 12 (.look 13 (.look 14 (.look 15 (.act 16 .done .stop)))) .stop) .stop) .stop)) (.act 10 (.act 3 (.act 11 (.act 12 (.look 13 (.look 14 (.look 15 (.act 16 .done .stop)))) .stop) .stop) (.act 11 (.act 3 (.act 12 (.look 13 (.look 14 (.look 15 (.act 16 .done .stop)))) .stop) .stop) .stop)) (.act 11 (.act 3 (.act 10 (.act 12 (.look 13 (.look 14 (.look 15 (.act 16 .done .stop)))) .stop) .stop) (.act 10 (.act 3 (.act 12 (.look 13 (.look 14 (.look 15 (.act 16 .done .stop)))) .stop) .stop) .stop)) .stop))) (.act 10 (.act 1 (.act 3 (.act 11 (.act 12 (.look 13 (.look 14 (.look 15 (.act 16 .done .stop)))) .stop) .stop) (.act 11 (.act 3 (.act 12 (.look 13 (.look 14 (.look 15 (.act 16 .done .stop)))) .stop) .stop) .stop)) (.act 11 (.act 1 (.act 3 (.act 12 (.look 13 (.look 14 (.look 15 (.act 16 .done .stop)))) .stop) .stop) .stop) .stop)) (.act 11 (.act 1 (.act 3 (.act 10 (.act 12 (.look 13 (.look 14 (.look 15 (.act 16 .done .stop)))) .stop) .stop) (.act 10 (.act 3 (.act 12 (.look 13 (.look 14 (.look 15 (.act 16 .done .stop)))) .stop) .stop) .stop)) (.act 10 (.act 1 (.act 3 (.act 12 (.look 13 (.look 14 (.look 15 (.act 16 .done .stop)))) .stop) .stop) .stop) .stop)) .stop))))))))))) (by kernel_rfl) fun w16 u17 => ?_
  have zu17 := u17.size
  have E18 := E11.nx u17
  have B19 := ((B4.kx u10).kx u17)
  refine y_loadN (vs := [.int .u8 u.a, .int .u8 u.b, .int .u8 u.c, .int .u8 u.d, .int .u8 u.e, .slice ao xs.length cap]) Try.isAgg25 Try.sizeOf25 rfl rfl rfl (B19.at.sub 0 6) rfl (fun h => h) (y_loadN (vs := [.int .u8 u.a, .int .u8 u.b, .int .u8 u.c, .int .u8 u.d, .int .u8 u.e, .slice ao xs.length cap]) Try.isAgg25 Try.sizeOf25 rfl rfl rfl (B19.at.sub 0 6) rfl (fun h => h) (y_field Try.underlying48 rfl Try.sizeOf45 (0) rfl rfl rfl rfl ?_))
  have B20 := (B9.kx u17)
  refine y_load Try.isAgg45 rfl rfl rfl (B20.get rfl) (fun h => h) (y_field Try.underlying48 rfl Try.sizeOf5 (1) rfl rfl rfl rfl (y_load Try.isAgg5 rfl rfl rfl (B20.get rfl) (fun h => h) (y_field Try.underlying48 rfl Try.sizeOf46 (2) rfl rfl rfl rfl (y_loadN (vs := [.int .u8 y.c, .int .u8 y.d, .int .u8 y.e]) Try.isAgg46 Try.sizeOf46 rfl rfl rfl (B20.at.sub 2 3) rfl (fun h => h) (s_or ?_ ?_)))))
  ·
   refine s_do (t_call own8 rfl rfl rfl rfl (small_c u _ _ _ _ hu) (fun v21 w22 r24 => ?_))
   obtain ⟨rfl, u23⟩ := r24
   have zu23 := u23.size
   have E25 := E18.nx u23
   refine s_next ((Upd.refl _ _).nx u23) (s_or ?_ ?_)
   ·
    refine s_do (t_call own9 rfl rfl rfl rfl (smallD_v u xs ao b o cap 6 _ (hx.keep E25 (fun _ h => h)) hxl hxs (by decide) (by omega)) (fun v27 w28 r30 => ?_))
    obtain ⟨⟨aoD26, gD26, cD26, l, hle, rfl, haD26⟩, u29⟩ := r30
    have zu29 := u29.size
    have hll : l.length ≤ 6 := by rw [hle]; exact dsOf_len _ _
    have hod : ∀ d ∈ l, okDty d = true := by rw [hle]; exact dsOf_ok hxs
    have lt_gD26 := haD26.lt
    refine s_next ((Upd.refl _ _).nx u29) (s_or ?_ ?_)
    ·
     refine s_do (t_alloc (cs := [.int .i64 0, .int .i64 0, .int .i64 0, .int .i64 0, .int .i64 0]) Try.zeroValue28 rfl rfl rfl (fun bk32 w33 ebk32 sbk32 B34 u35 => ?_))
     have zu35 := u35.size
     refine s_next ((Upd.refl _ _).nx u35) (s_do (t_alloc (cs := [.int .u8 0, .int .u8 0, .int .u8 0]) Try.zeroValue46 rfl rfl rfl (fun bk37 w38 ebk37 sbk37 B39 u40 => ?_)))
     have zu40 := u40.size
     refine s_next ((Upd.refl _ _).nx u40) (s_do ?_)
     have B42 := (B34.kx u40)
     refine t_st (vs := [.int .i64 ((smR u).rest), .int .i64 ((smR u).span), .int .i64 ((smR u).work), .int .i64 ((smR u).week), .int .i64 ((smR u).ww)]) Try.sizeOf28 rfl rfl rfl B42 rfl rfl rfl rfl (fun w43 sw43 B45 u44 => ?_)
     have zu44 := u44.size
     have B45 : Blk w43 bk32 28 [.int .i64 ((smR u).rest), .int .i64 ((smR u).span), .int .i64 ((smR u).work), .int .i64 ((smR u).week), .int .i64 ((smR u).ww)] := B45
     refine s_next ((Upd.refl _ _).next u44 (fun i hi (h : i = bk32) => show w16.heap.size ≤ i ∨ (False) by first | omega | exact .inr h)) (y_assign rfl rfl rfl (y_assign rfl rfl rfl (y_assign rfl rfl rfl (s_do ?_))))
     have B47 := (B39.keep u44 (by omega))
     refine t_st (vs := [.int .u8 y.c, .int .u8 y.d, .int .u8 y.e]) Try.sizeOf46 rfl rfl rfl B47 rfl rfl rfl rfl (fun w48 sw48 B50 u49 => ?_)
     have zu49 := u49.size
     have B50 : Blk w48 bk37 46 [.int .u8 y.c, .int .u8 y.d, .int .u8 y.e] := B50
     refine s_next ((Upd.refl _ _).next u49 (fun i hi (h : i = bk37) => show w16.heap.size ≤ i ∨ (False) by first | omega | exact .inr h)) (s_nil ?_)
     have B52 := (B45.keep u49 (by omega))
     have D53 := ((((haD26.keep u35 (fun _ h => h)).keep u40 (fun _ h => h)).keep u44 (fun hb => show ¬ (gD26 = bk32) by first | omega | assumption)).keep u49 (fun hb => show ¬ (gD26 = bk37) by first | omega | assumption))
     exact hK13 (w22.heap.size, bk32, bk37, aoD26, gD26, cD26, l) _ _ ⟨rfl, rfl, rfl, rfl, rfl, trivial⟩ ⟨((((((((Upd.refl _ _).next u17 (fun _ _ h => h.elim)).next u23 (fun _ _ h => h.elim)).next u29 (fun _ _ h => h.elim)).next u35 (fun _ _ h => h.elim)).next u40 (fun _ _ h => h.elim)).next u44 (fun i hi h => by omega)).next u49 (fun i hi h => by omega)), B52, B50, D53, hle, (by show w8.heap.size ≤ bk32 ∧ w8.heap.size ≤ bk37 ∧ bk32 ≠ bk37 ∧ w8.heap.size ≤ w22.heap.size; omega)⟩
    refine s_do (t_alloc (cs := [.int .u8 0, .int .u8 0, .int .u8 0]) Try.zeroValue46 rfl rfl rfl (fun bk54 w55 ebk54 sbk54 B56 u57 => ?_))
    have zu57 := u57.size
    refine s_next ((Upd.refl _ _).nx u57) (s_do (t_alloc (cs := [.int .i64 0, .int .i64 0, .int .i64 0, .int .i64 0, .int .i64 0]) Try.zeroValue28 rfl rfl rfl (fun bk59 w60 ebk59 sbk59 B61 u62 => ?_)))
    have zu62 := u62.size
    refine s_next ((Upd.refl _ _).nx u62) (s_do (t_st (vs := [.int .i64 ((smR u).rest), .int .i64 ((smR u).span), .int .i64 ((smR u).work), .int .i64 ((smR u).week), .int .i64 ((smR u).ww)]) Try.sizeOf28 rfl rfl rfl B61 rfl rfl rfl rfl (fun w64 sw64 B66 u65 => ?_)))
    have zu65 := u65.size
    have B66 : Blk w64 bk59 28 [.int .i64 ((smR u).rest), .int .i64 ((smR u).span), .int .i64 ((smR u).work), .int .i64 ((smR u).week), .int .i64 ((smR u).ww)] := B66
    refine s_next ((Upd.refl _ _).next u65 (fun i hi (h : i = bk59) => show w16.heap.size ≤ i ∨ (False) by first | omega | exact .inr h)) (y_assign rfl rfl rfl (y_assign rfl rfl rfl (y_assign rfl rfl rfl (s_do ?_))))
    have B68 := ((B56.kx u62).keep u65 (by omega))
    refine t_st (vs := [.int .u8 y.c, .int .u8 y.d, .int .u8 y.e]) Try.sizeOf46 rfl rfl rfl B68 rfl rfl rfl rfl (fun w69 sw69 B71 u70 => ?_)
    have zu70 := u70.size
    have B71 : Blk w69 bk54 46 [.int .u8 y.c, .int .u8 y.d, .int .u8 y.e] := B71
    refine s_next ((Upd.refl _ _).next u70 (fun i hi (h : i = bk54) => show w16.heap.size ≤ i ∨ (False) by first | omega | exact .inr h)) (s_nil ?_)
    have B73 := (B66.keep u70 (by omega))
    have D74 := ((((haD26.keep u57 (fun _ h => h)).keep u62 (fun _ h => h)).keep u65 (fun hb => show ¬ (gD26 = bk59) by first | omega | assumption)).keep u70 (fun hb => show ¬ (gD26 = bk54) by first | omega | assumption))
    exact hK13 (w22.heap.size, bk59, bk54, aoD26, gD26, cD26, l) _ _ ⟨rfl, rfl, rfl, rfl, rfl, trivial⟩ ⟨((((((((Upd.refl _ _).next u17 (fun _ _ h => h.elim)).next u23 (fun _ _ h => h.elim)).next u29 (fun _ _ h => h.elim)).next u57 (fun _ _ h => h.elim)).next u62 (fun _ _ h => h.elim)).next u65 (fun i hi h => by omega)).next u70 (fun i hi h => by omega)), B73, B71, D74, hle, (by show w8.heap.size ≤ bk59 ∧ w8.heap.size ≤ bk54 ∧ bk59 ≠ bk54 ∧ w8.heap.size ≤ w22.heap.size; omega)⟩
   refine s_or ?_ ?_
   ·
    refine s_do (t_alloc (cs := [.int .i64 0, .int .i64 0, .int .i64 0, .int .i64 0, .int .i64 0]) Try.zeroValue28 rfl rfl rfl (fun bk75 w76 ebk75 sbk75 B77 u78 => ?_))
    have zu78 := u78.size
    have E79 := E25.nx u78
    refine s_next ((Upd.refl _ _).nx u78) (s_or ?_ ?_)
    ·
     refine s_do (t_call own9 rfl rfl rfl rfl (smallD_v u xs ao b o cap 6 _ (hx.keep E79 (fun _ h => h)) hxl hxs (by decide) (by omega)) (fun v81 w82 r84 => ?_))
     obtain ⟨⟨aoD80, gD80, cD80, l, hle, rfl, haD80⟩, u83⟩ := r84
     have zu83 := u83.size
     have hll : l.length ≤ 6 := by rw [hle]; exact dsOf_len _ _
     have hod : ∀ d ∈ l, okDty d = true := by rw [hle]; exact dsOf_ok hxs
     have lt_gD80 := haD80.lt
     refine s_next ((Upd.refl _ _).nx u83) (s_do (t_alloc (cs := [.int .u8 0, .int .u8 0, .int .u8 0]) Try.zeroValue46 rfl rfl rfl (fun bk86 w87 ebk86 sbk86 B88 u89 => ?_)))
     have zu89 := u89.size
     refine s_next ((Upd.refl _ _).nx u89) (s_do ?_)
     have B91 := ((B77.kx u83).kx u89)
     refine t_st (vs := [.int .i64 ((smR u).rest), .int .i64 ((smR u).span), .int .i64 ((smR u).work), .int .i64 ((smR u).week), .int .i64 ((smR u).ww)]) Try.sizeOf28 rfl rfl rfl B91 rfl rfl rfl rfl (fun w92 sw92 B94 u93 => ?_)
     have zu93 := u93.size
     have B94 : Blk w92 bk75 28 [.int .i64 ((smR u).rest), .int .i64 ((smR u).span), .int .i64 ((smR u).work), .int .i64 ((smR u).week), .int .i64 ((smR u).ww)] := B94
     refine s_next ((Upd.refl _ _).next u93 (fun i hi (h : i = bk75) => show w16.heap.size ≤ i ∨ (False) by first | omega | exact .inr h)) (y_assign rfl rfl rfl (y_assign rfl rfl rfl (y_assign rfl rfl rfl (s_do ?_))))
     have B96 := (B88.keep u93 (by omega))
     refine t_st (vs := [.int .u8 y.c, .int .u8 y.d, .int .u8 y.e]) Try.sizeOf46 rfl rfl rfl B96 rfl rfl rfl rfl (fun w97 sw97 B99 u98 => ?_)
     have zu98 := u98.size
     have B99 : Blk w97 bk86 46 [.int .u8 y.c, .int .u8 y.d, .int .u8 y.e] := B99
     refine s_next ((Upd.refl _ _).next u98 (fun i hi (h : i = bk86) => show w16.heap.size ≤ i ∨ (False) by first | omega | exact .inr h)) (s_nil ?_)
     have B101 := (B94.keep u98 (by omega))
     have D102 := (((haD80.keep u89 (fun _ h => h)).keep u93 (fun hb => show ¬ (gD80 = bk75) by first | omega | assumption)).keep u98 (fun hb => show ¬ (gD80 = bk86) by first | omega | assumption))
     exact hK13 (w76.heap.size, bk75, bk86, aoD80, gD80, cD80, l) _ _ ⟨rfl, rfl, rfl, rfl, rfl, trivial⟩ ⟨((((((((Upd.refl _ _).next u17 (fun _ _ h => h.elim)).next u23 (fun _ _ h => h.elim)).next u78 (fun _ _ h => h.elim)).next u83 (fun _ _ h => h.elim)).next u89 (fun _ _ h => h.elim)).next u93 (fun i hi h => by omega)).next u98 (fun i hi h => by omega)), B101, B99, D102, hle, (by show w8.heap.size ≤ bk75 ∧ w8.heap.size ≤ bk86 ∧ bk75 ≠ bk86 ∧ w8.heap.size ≤ w76.heap.size; omega)⟩
    refine s_do (t_alloc (cs := [.int .u8 0, .int .u8 0, .int .u8 0]) Try.zeroValue46 rfl rfl rfl (fun bk103 w104 ebk103 sbk103 B105 u106 => ?_))
    have zu106 := u106.size
    refine s_next ((Upd.refl _ _).nx u106) (s_do (t_call own9 rfl rfl rfl rfl (smallD_v u xs ao b o cap 6 _ (hx.keep (E79.nx u106) (fun _ h => h)) hxl hxs (by decide) (by omega)) (fun v109 w110 r112 => ?_)))
    obtain ⟨⟨aoD108, gD108, cD108, l, hle, rfl, haD108⟩, u111⟩ := r112
    have zu111 := u111.size
    have hll : l.length ≤ 6 := by rw [hle]; exact dsOf_len _ _
    have hod : ∀ d ∈ l, okDty d = true := by rw [hle]; exact dsOf_ok hxs
    have lt_gD108 := haD108.lt
    refine s_next ((Upd.refl _ _).nx u111) (s_do ?_)
    have B114 := ((B77.kx u106).kx u111)
    refine t_st (vs := [.int .i64 ((smR u).rest), .int .i64 ((smR u).span), .int .i64 ((smR u).work), .int .i64 ((smR u).week), .int .i64 ((smR u).ww)]) Try.sizeOf28 rfl rfl rfl B114 rfl rfl rfl rfl (fun w115 sw115 B117 u116 => ?_)
    have zu116 := u116.size
    have B117 : Blk w115 bk75 28 [.int .i64 ((smR u).rest), .int .i64 ((smR u).span), .int .i64 ((smR u).work), .int .i64 ((smR u).week), .int .i64 ((smR u).ww)] := B117
    refine s_next ((Upd.refl _ _).next u116 (fun i hi (h : i = bk75) => show w16.heap.size ≤ i ∨ (False) by first | omega | exact .inr h)) (y_assign rfl rfl rfl (y_assign rfl rfl rfl (y_assign rfl rfl rfl (s_do ?_))))
    have B119 := ((B105.kx u111).keep u116 (by omega))
    refine t_st (vs := [.int .u8 y.c, .int .u8 y.d, .int .u8 y.e]) Try.sizeOf46 rfl rfl rfl B119 rfl rfl rfl rfl (fun w120 sw120 B122 u121 => ?_)
    have zu121 := u121.size
    have B122 : Blk w120 bk103 46 [.int .u8 y.c, .int .u8 y.d, .int .u8 y.e] := B122
    refine s_next ((Upd.refl _ _).next u121 (fun i hi (h : i = bk103) => show w16.heap.size ≤ i ∨ (False) by first | omega | exact .inr h)) (s_nil ?_)
    have B124 := (B117.keep u121 (by omega))
    have D125 := ((haD108.keep u116 (fun hb => show ¬ (gD108 = bk75) by first | omega | assumption)).keep u121 (fun hb => show ¬ (gD108 = bk103) by first | omega | assumption))
    exact hK13 (w104.heap.size, bk75, bk103, aoD108, gD108, cD108, l) _ _ ⟨rfl, rfl, rfl, rfl, rfl, trivial⟩ ⟨((((((((Upd.refl _ _).next u17 (fun _ _ h => h.elim)).next u23 (fun _ _ h => h.elim)).next u78 (fun _ _ h => h.elim)).next u106 (fun _ _ h => h.elim)).next u111 (fun _ _ h => h.elim)).next u116 (fun i hi h => by omega)).next u121 (fun i hi h => by omega)), B124, B122, D125, hle, (by show w8.heap.size ≤ bk75 ∧ w8.heap.size ≤ bk103 ∧ bk75 ≠ bk103 ∧ w8.heap.size ≤ w104.heap.size; omega)⟩
   refine s_do (t_alloc (cs := [.int .u8 0, .int .u8 0, .int .u8 0]) Try.zeroValue46 rfl rfl rfl (fun bk126 w127 ebk126 sbk126 B128 u129 => ?_))
   have zu129 := u129.size
   have E130 := E25.nx u129
   refine s_next ((Upd.refl _ _).nx u129) (s_or ?_ ?_)
   ·
    refine s_do (t_call own9 rfl rfl rfl rfl (smallD_v u xs ao b o cap 6 _ (hx.keep E130 (fun _ h => h)) hxl hxs (by decide) (by omega)) (fun v132 w133 r135 => ?_))
    obtain ⟨⟨aoD131, gD131, cD131, l, hle, rfl, haD131⟩, u134⟩ := r135
    have zu134 := u134.size
    have hll : l.length ≤ 6 := by rw [hle]; exact dsOf_len _ _
    have hod : ∀ d ∈ l, okDty d = true := by rw [hle]; exact dsOf_ok hxs
    have lt_gD131 := haD131.lt
    refine s_next ((Upd.refl _ _).nx u134) (s_do (t_alloc (cs := [.int .i64 0, .int .i64 0, .int .i64 0, .int .i64 0, .int .i64 0]) Try.zeroValue28 rfl rfl rfl (fun bk137 w138 ebk137 sbk137 B139 u140 => ?_)))
    have zu140 := u140.size
    refine s_next ((Upd.refl _ _).nx u140) (s_do (t_st (vs := [.int .i64 ((smR u).rest), .int .i64 ((smR u).span), .int .i64 ((smR u).work), .int .i64 ((smR u).week), .int .i64 ((smR u).ww)]) Try.sizeOf28 rfl rfl rfl B139 rfl rfl rfl rfl (fun w142 sw142 B144 u143 => ?_)))
    have zu143 := u143.size
    have B144 : Blk w142 bk137 28 [.int .i64 ((smR u).rest), .int .i64 ((smR u).span), .int .i64 ((smR u).work), .int .i64 ((smR u).week), .int .i64 ((smR u).ww)] := B144
    refine s_next ((Upd.refl _ _).next u143 (fun i hi (h : i = bk137) => show w16.heap.size ≤ i ∨ (False) by first | omega | exact .inr h)) (y_assign rfl rfl rfl (y_assign rfl rfl rfl (y_assign rfl rfl rfl (s_do ?_))))
    have B146 := (((B128.kx u134).kx u140).keep u143 (by omega))
    refine t_st (vs := [.int .u8 y.c, .int .u8 y.d, .int .u8 y.e]) Try.sizeOf46 rfl rfl rfl B146 rfl rfl rfl rfl (fun w147 sw147 B149 u148 => ?_)
    have zu148 := u148.size
    have B149 : Blk w147 bk126 46 [.int .u8 y.c, .int .u8 y.d, .int .u8 y.e] := B149
    refine s_next ((Upd.refl _ _).next u148 (fun i hi (h : i = bk126) => show w16.heap.size ≤ i ∨ (False) by first | omega | exact .inr h)) (s_nil ?_)
    have B151 := (B144.keep u148 (by omega))
    have D152 := (((haD131.keep u140 (fun _ h => h)).keep u143 (fun hb => show ¬ (gD131 = bk137) by first | omega | assumption)).keep u148 (fun hb => show ¬ (gD131 = bk126) by first | omega | assumption))
    exact hK13 (w127.heap.size, bk137, bk126, aoD131, gD131, cD131, l) _ _ ⟨rfl, rfl, rfl, rfl, rfl, trivial⟩ ⟨((((((((Upd.refl _ _).next u17 (fun _ _ h => h.elim)).next u23 (fun _ _ h => h.elim)).next u129 (fun _ _ h => h.elim)).next u134 (fun _ _ h => h.elim)).next u140 (fun _ _ h => h.elim)).next u143 (fun i hi h => by omega)).next u148 (fun i hi h => by omega)), B151, B149, D152, hle, (by show w8.heap.size ≤ bk137 ∧ w8.heap.size ≤ bk126 ∧ bk137 ≠ bk126 ∧ w8.heap.size ≤ w127.heap.size; omega)⟩
   refine s_do (t_alloc (cs := [.int .i64 0, .int .i64 0, .int .i64 0, .int .i64 0, .int .i64 0]) Try.zeroValue28 rfl rfl rfl (fun bk153 w154 ebk153 sbk153 B155 u156 => ?_))
   have zu156 := u156.size
   refine s_next ((Upd.refl _ _).nx u156) (s_do (t_call own9 rfl rfl rfl rfl (smallD_v u xs ao b o cap 6 _ (hx.keep (E130.nx u156) (fun _ h => h)) hxl hxs (by decide) (by omega)) (fun v159 w160 r162 => ?_)))
   obtain ⟨⟨aoD158, gD158, cD158, l, hle, rfl, haD158⟩, u161⟩ := r162
   have zu161 := u161.size
   have hll : l.length ≤ 6 := by rw [hle]; exact dsOf_len _ _
   have hod : ∀ d ∈ l, okDty d = true := by rw [hle]; exact dsOf_ok hxs
   have lt_gD158 := haD158.lt
   refine s_next ((Upd.refl _ _).nx u161) (s_do ?_)
   have B164 := (B155.kx u161)
   refine t_st (vs := [.int .i64 ((smR u).rest), .int .i64 ((smR u).span), .int .i64 ((smR u).work), .int .i64 ((smR u).week), .int .i64 ((smR u).ww)]) Try.sizeOf28 rfl rfl rfl B164 rfl rfl rfl rfl (fun w165 sw165 B167 u166 => ?_)
   have zu166 := u166.size
   have B167 : Blk w165 bk153 28 [.int .i64 ((smR u).rest), .int .i64 ((smR u).span), .int .i64 ((smR u).work), .int .i64 ((smR u).week), .int .i64 ((smR u).ww)] := B167
   refine s_next ((Upd.refl _ _).next u166 (fun i hi (h : i = bk153) => show w16.heap.size ≤ i ∨ (False) by first | omega | exact .inr h)) (y_assign rfl rfl rfl (y_assign rfl rfl rfl (y_assign rfl rfl rfl (s_do ?_))))
   have B169 := (((B128.kx u156).kx u161).keep u166 (by omega))
   refine t_st (vs := [.int .u8 y.c, .int .u8 y.d, .int .u8 y.e]) Try.sizeOf46 rfl rfl rfl B169 rfl rfl rfl rfl (fun w170 sw170 B172 u171 => ?_)
   have zu171 := u171.size
   have B172 : Blk w170 bk126 46 [.int .u8 y.c, .int .u8 y.d, .int .u8 y.e] := B172
   refine s_next ((Upd.refl _ _).next u171 (fun i hi (h : i = bk126) => show w16.heap.size ≤ i ∨ (False) by first | omega | exact .inr h)) (s_nil ?_)
   have B174 := (B167.keep u171 (by omega))
   have D175 := ((haD158.keep u166 (fun hb => show ¬ (gD158 = bk153) by first | omega | assumption)).keep u171 (fun hb => show ¬ (gD158 = bk126) by first | omega | assumption))
   exact hK13 (w154.heap.size, bk153, bk126, aoD158, gD158, cD158, l) _ _ ⟨rfl, rfl, rfl, rfl, rfl, trivial⟩ ⟨((((((((Upd.refl _ _).next u17 (fun _ _ h => h.elim)).next u23 (fun _ _ h => h.elim)).next u129 (fun _ _ h => h.elim)).next u156 (fun _ _ h => h.elim)).next u161 (fun _ _ h => h.elim)).next u166 (fun i hi h => by omega)).next u171 (fun i hi h => by omega)), B174, B172, D175, hle, (by show w8.heap.size ≤ bk153 ∧ w8.heap.size ≤ bk126 ∧ bk153 ≠ bk126 ∧ w8.heap.size ≤ w154.heap.size; omega)⟩
  refine s_or ?_ ?_
  ·
   refine s_do (t_alloc (cs := [.int .i64 0, .int .i64 0, .int .i64 0, .int .i64 0, .int .i64 0]) Try.zeroValue28 rfl rfl rfl (fun bk176 w177 ebk176 sbk176 B178 u179 => ?_))
   have zu179 := u179.size
   have E180 := E18.nx u179
   refine s_next ((Upd.refl _ _).nx u179) (s_or ?_ ?_)
   ·
    refine s_do (t_call own8 rfl rfl rfl rfl (small_c u _ _ _ _ hu) (fun v181 w182 r184 => ?_))
    obtain ⟨rfl, u183⟩ := r184
    have zu183 := u183.size
    have E185 := E180.nx u183
    refine s_next ((Upd.refl _ _).nx u183) (s_or ?_ ?_)
    ·
     refine s_do (t_call own9 rfl rfl rfl rfl (smallD_v u xs ao b o cap 6 _ (hx.keep E185 (fun _ h => h)) hxl hxs (by decide) (by omega)) (fun v187 w188 r190 => ?_))
     obtain ⟨⟨aoD186, gD186, cD186, l, hle, rfl, haD186⟩, u189⟩ := r190
     have zu189 := u189.size
     have hll : l.length ≤ 6 := by rw [hle]; exact dsOf_len _ _
     have hod : ∀ d ∈ l, okDty d = true := by rw [hle]; exact dsOf_ok hxs
     have lt_gD186 := haD186.lt
     refine s_next ((Upd.refl _ _).nx u189) (s_do (t_alloc (cs := [.int .u8 0, .int .u8 0, .int .u8 0]) Try.zeroValue46 rfl rfl rfl (fun bk192 w193 ebk192 sbk192 B194 u195 => ?_)))
     have zu195 := u195.size
     refine s_next ((Upd.refl _ _).nx u195) (s_do ?_)
     have B197 := (((B178.kx u183).kx u189).kx u195)
     refine t_st (vs := [.int .i64 ((smR u).rest), .int .i64 ((smR u).span), .int .i64 ((smR u).work), .int .i64 ((smR u).week), .int .i64 ((smR u).ww)]) Try.sizeOf28 rfl rfl rfl B197 rfl rfl rfl rfl (fun w198 sw198 B200 u199 => ?_)
     have zu199 := u199.size
     have B200 : Blk w198 bk176 28 [.int .i64 ((smR u).rest), .int .i64 ((smR u).span), .int .i64 ((smR u).work), .int .i64 ((smR u).week), .int .i64 ((smR u).ww)] := B200
     refine s_next ((Upd.refl _ _).next u199 (fun i hi (h : i = bk176) => show w16.heap.size ≤ i ∨ (False) by first | omega | exact .inr h)) (y_assign rfl rfl rfl (y_assign rfl rfl rfl (y_assign rfl rfl rfl (s_do ?_))))
     have B202 := (B194.keep u199 (by omega))
     refine t_st (vs := [.int .u8 y.c, .int .u8 y.d, .int .u8 y.e]) Try.sizeOf46 rfl rfl rfl B202 rfl rfl rfl rfl (fun w203 sw203 B205 u204 => ?_)
     have zu204 := u204.size
     have B205 : Blk w203 bk192 46 [.int .u8 y.c, .int .u8 y.d, .int .u8 y.e] := B205
     refine s_next ((Upd.refl _ _).next u204 (fun i hi (h : i = bk192) => show w16.heap.size ≤ i ∨ (False) by first | omega | exact .inr h)) (s_nil ?_)
     have B207 := (B200.keep u204 (by omega))
     have D208 := (((haD186.keep u195 (fun _ h => h)).keep u199 (fun hb => show ¬ (gD186 = bk176) by first | omega | assumption)).keep u204 (fun hb => show ¬ (gD186 = bk192) by first | omega | assumption))
     exact hK13 (w182.heap.size, bk176, bk192, aoD186, gD186, cD186, l) _ _ ⟨rfl, rfl, rfl, rfl, rfl, trivial⟩ ⟨((((((((Upd.refl _ _).next u17 (fun _ _ h => h.elim)).next u179 (fun _ _ h => h.elim)).next u183 (fun _ _ h => h.elim)).next u189 (fun _ _ h => h.elim)).next u195 (fun _ _ h => h.elim)).next u199 (fun i hi h => by omega)).next u204 (fun i hi h => by omega)), B207, B205, D208, hle, (by show w8.heap.size ≤ bk176 ∧ w8.heap.size ≤ bk192 ∧ bk176 ≠ bk192 ∧ w8.heap.size ≤ w182.heap.size; omega)⟩
    refine s_do (t_alloc (cs := [.int .u8 0, .int .u8 0, .int .u8 0]) Try.zeroValue46 rfl rfl rfl (fun bk209 w210 ebk209 sbk209 B211 u212 => ?_))
    have zu212 := u212.size
    refine s_next ((Upd.refl _ _).nx u212) (s_do (t_call own9 rfl rfl rfl rfl (smallD_v u xs ao b o cap 6 _ (hx.keep (E185.nx u212) (fun _ h => h)) hxl hxs (by decide) (by omega)) (fun v215 w216 r218 => ?_)))
    obtain ⟨⟨aoD214, gD214, cD214, l, hle, rfl, haD214⟩, u217⟩ := r218
    have zu217 := u217.size
    have hll : l.length ≤ 6 := by rw [hle]; exact dsOf_len _ _
    have hod : ∀ d ∈ l, okDty d = true := by rw [hle]; exact dsOf_ok hxs
    have lt_gD214 := haD214.lt
    refine s_next ((Upd.refl _ _).nx u217) (s_do ?_)
    have B220 := (((B178.kx u183).kx u212).kx u217)
    refine t_st (vs := [.int .i64 ((smR u).rest), .int .i64 ((smR u).span), .int .i64 ((smR u).work), .int .i64 ((smR u).week), .int .i64 ((smR u).ww)]) Try.sizeOf28 rfl rfl rfl B220 rfl rfl rfl rfl (fun w221 sw221 B223 u222 => ?_)
    have zu222 := u222.size
    have B223 : Blk w221 bk176 28 [.int .i64 ((smR u).rest), .int .i64 ((smR u).span), .int .i64 ((smR u).work), .int .i64 ((smR u).week), .int .i64 ((smR u).ww)] := B223
    refine s_next ((Upd.refl _ _).next u222 (fun i hi (h : i = bk176) => show w16.heap.size ≤ i ∨ (False) by first | omega | exact .inr h)) (y_assign rfl rfl rfl (y_assign rfl rfl rfl (y_assign rfl rfl rfl (s_do ?_))))
    have B225 := ((B211.kx u217).keep u222 (by omega))
    refine t_st (vs := [.int .u8 y.c, .int .u8 y.d, .int .u8 y.e]) Try.sizeOf46 rfl rfl rfl B225 rfl rfl rfl rfl (fun w226 sw226 B228 u227 => ?_)
    have zu227 := u227.size
    have B228 : Blk w226 bk209 46 [.int .u8 y.c, .int .u8 y.d, .int .u8 y.e] := B228
    refine s_next ((Upd.refl _ _).next u227 (fun i hi (h : i = bk209) => show w16.heap.size ≤ i ∨ (False) by first | omega | exact .inr h)) (s_nil ?_)
    have B230 := (B223.keep u227 (by omega))
    have D231 := ((haD214.keep u222 (fun hb => show ¬ (gD214 = bk176) by first | omega | assumption)).keep u227 (fun hb => show ¬ (gD214 = bk209) by first | omega | assumption))
    exact hK13 (w210.heap.size, bk176, bk209, aoD214, gD214, cD214, l) _ _ ⟨rfl, rfl, rfl, rfl, rfl, trivial⟩ ⟨((((((((Upd.refl _ _).next u17 (fun _ _ h => h.elim)).next u179 (fun _ _ h => h.elim)).next u183 (fun _ _ h => h.elim)).next u212 (fun _ _ h => h.elim)).next u217 (fun _ _ h => h.elim)).next u222 (fun i hi h => by omega)).next u227 (fun i hi h => by omega)), B230, B228, D231, hle, (by show w8.heap.size ≤ bk176 ∧ w8.heap.size ≤ bk209 ∧ bk176 ≠ bk209 ∧ w8.heap.size ≤ w210.heap.size; omega)⟩
   refine s_do (t_alloc (cs := [.int .u8 0, .int .u8 0, .int .u8 0]) Try.zeroValue46 rfl rfl rfl (fun bk232 w233 ebk232 sbk232 B234 u235 => ?_))
   have zu235 := u235.size
   refine s_next ((Upd.refl _ _).nx u235) (s_do (t_call own8 rfl rfl rfl rfl (small_c u _ _ _ _ hu) (fun v237 w238 r240 => ?_)))
   obtain ⟨rfl, u239⟩ := r240
   have zu239 := u239.size
   refine s_next ((Upd.refl _ _).nx u239) (s_do (t_call own9 rfl rfl rfl rfl (smallD_v u xs ao b o cap 6 _ (hx.keep ((E180.nx u235).nx u239) (fun _ h => h)) hxl hxs (by decide) (by omega)) (fun v243 w244 r246 => ?_)))
   obtain ⟨⟨aoD242, gD242, cD242, l, hle, rfl, haD242⟩, u245⟩ := r246
   have zu245 := u245.size
   have hll : l.length ≤ 6 := by rw [hle]; exact dsOf_len _ _
   have hod : ∀ d ∈ l, okDty d = true := by rw [hle]; exact dsOf_ok hxs
   have lt_gD242 := haD242.lt
   refine s_next ((Upd.refl _ _).nx u245) (s_do ?_)
   have B248 := (((B178.kx u235).kx u239).kx u245)
   refine t_st (vs := [.int .i64 ((smR u).rest), .int .i64 ((smR u).span), .int .i64 ((smR u).work), .int .i64 ((smR u).week), .int .i64 ((smR u).ww)]) Try.sizeOf28 rfl rfl rfl B248 rfl rfl rfl rfl (fun w249 sw249 B251 u250 => ?_)
   have zu250 := u250.size
   have B251 : Blk w249 bk176 28 [.int .i64 ((smR u).rest), .int .i64 ((smR u).span), .int .i64 ((smR u).work), .int .i64 ((smR u).week), .int .i64 ((smR u).ww)] := B251
   refine s_next ((Upd.refl _ _).next u250 (fun i hi (h : i = bk176) => show w16.heap.size ≤ i ∨ (False) by first | omega | exact .inr h)) (y_assign rfl rfl rfl (y_assign rfl rfl rfl (y_assign rfl rfl rfl (s_do ?_))))
   have B253 := (((B234.kx u239).kx u245).keep u250 (by omega))
   refine t_st (vs := [.int .u8 y.c, .int .u8 y.d, .int .u8 y.e]) Try.sizeOf46 rfl rfl rfl B253 rfl rfl rfl rfl (fun w254 sw254 B256 u255 => ?_)
   have zu255 := u255.size
   have B256 : Blk w254 bk232 46 [.int .u8 y.c, .int .u8 y.d, .int .u8 y.e] := B256
   refine s_next ((Upd.refl _ _).next u255 (fun i hi (h : i = bk232) => show w16.heap.size ≤ i ∨ (False) by first | omega | exact .inr h)) (s_nil ?_)
   have B258 := (B251.keep u255 (by omega))
   have D259 := ((haD242.keep u250 (fun hb => show ¬ (gD242 = bk176) by first | omega | assumption)).keep u255 (fun hb => show ¬ (gD242 = bk232) by first | omega | assumption))
   exact hK13 (w238.heap.size, bk176, bk232, aoD242, gD242, cD242, l) _ _ ⟨rfl, rfl, rfl, rfl, rfl, trivial⟩ ⟨((((((((Upd.refl _ _).next u17 (fun _ _ h => h.elim)).next u179 (fun _ _ h => h.elim)).next u235 (fun _ _ h => h.elim)).next u239 (fun _ _ h => h.elim)).next u245 (fun _ _ h => h.elim)).next u250 (fun i hi h => by omega)).next u255 (fun i hi h => by omega)), B258, B256, D259, hle, (by show w8.heap.size ≤ bk176 ∧ w8.heap.size ≤ bk232 ∧ bk176 ≠ bk232 ∧ w8.heap.size ≤ w238.heap.size; omega)⟩
  refine s_do (t_alloc (cs := [.int .u8 0, .int .u8 0, .int .u8 0]) Try.zeroValue46 rfl rfl rfl (fun bk260 w261 ebk260 sbk260 B262 u263 => ?_))
  have zu263 := u263.size
  have E264 := E18.nx u263
  refine s_next ((Upd.refl _ _).nx u263) (s_or ?_ ?_)
  ·
   refine s_do (t_call own8 rfl rfl rfl rfl (small_c u _ _ _ _ hu) (fun v265 w266 r268 => ?_))
   obtain ⟨rfl, u267⟩ := r268
   have zu267 := u267.size
   have E269 := E264.nx u267
   refine s_next ((Upd.refl _ _).nx u267) (s_or ?_ ?_)
   ·
    refine s_do (t_call own9 rfl rfl rfl rfl (smallD_v u xs ao b o cap 6 _ (hx.keep E269 (fun _ h => h)) hxl hxs (by decide) (by omega)) (fun v271 w272 r274 => ?_))
    obtain ⟨⟨aoD270, gD270, cD270, l, hle, rfl, haD270⟩, u273⟩ := r274
    have zu273 := u273.size
    have hll : l.length ≤ 6 := by rw [hle]; exact dsOf_len _ _
    have hod : ∀ d ∈ l, okDty d = true := by rw [hle]; exact dsOf_ok hxs
    have lt_gD270 := haD270.lt
    refine s_next ((Upd.refl _ _).nx u273) (s_do (t_alloc (cs := [.int .i64 0, .int .i64 0, .int .i64 0, .int .i64 0, .int .i64 0]) Try.zeroValue28 rfl rfl rfl (fun bk276 w277 ebk276 sbk276 B278 u279 => ?_)))
    have zu279 := u279.size
    refine s_next ((Upd.refl _ _).nx u279) (s_do (t_st (vs := [.int .i64 ((smR u).rest), .int .i64 ((smR u).span), .int .i64 ((smR u).work), .int .i64 ((smR u).week), .int .i64 ((smR u).ww)]) Try.sizeOf28 rfl rfl rfl B278 rfl rfl rfl rfl (fun w281 sw281 B283 u282 => ?_)))
    have zu282 := u282.size
    have B283 : Blk w281 bk276 28 [.int .i64 ((smR u).rest), .int .i64 ((smR u).span), .int .i64 ((smR u).work), .int .i64 ((smR u).week), .int .i64 ((smR u).ww)] := B283
    refine s_next ((Upd.refl _ _).next u282 (fun i hi (h : i = bk276) => show w16.heap.size ≤ i ∨ (False) by first | omega | exact .inr h)) (y_assign rfl rfl rfl (y_assign rfl rfl rfl (y_assign rfl rfl rfl (s_do ?_))))
    have B285 := ((((B262.kx u267).kx u273).kx u279).keep u282 (by omega))
    refine t_st (vs := [.int .u8 y.c, .int .u8 y.d, .int .u8 y.e]) Try.sizeOf46 rfl rfl rfl B285 rfl rfl rfl rfl (fun w286 sw286 B288 u287 => ?_)
    have zu287 := u287.size
    have B288 : Blk w286 bk260 46 [.int .u8 y.c, .int .u8 y.d, .int .u8 y.e] := B288
    refine s_next ((Upd.refl _ _).next u287 (fun i hi (h : i = bk260) => show w16.heap.size ≤ i ∨ (False) by first | omega | exact .inr h)) (s_nil ?_)
    have B290 := (B283.keep u287 (by omega))
    have D291 := (((haD270.keep u279 (fun _ h => h)).keep u282 (fun hb => show ¬ (gD270 = bk276) by first | omega | assumption)).keep u287 (fun hb => show ¬ (gD270 = bk260) by first | omega | assumption))
    exact hK13 (w266.heap.size, bk276, bk260, aoD270, gD270, cD270, l) _ _ ⟨rfl, rfl, rfl, rfl, rfl, trivial⟩ ⟨((((((((Upd.refl _ _).next u17 (fun _ _ h => h.elim)).next u263 (fun _ _ h => h.elim)).next u267 (fun _ _ h => h.elim)).next u273 (fun _ _ h => h.elim)).next u279 (fun _ _ h => h.elim)).next u282 (fun i hi h => by omega)).next u287 (fun i hi h => by omega)), B290, B288, D291, hle, (by show w8.heap.size ≤ bk276 ∧ w8.heap.size ≤ bk260 ∧ bk276 ≠ bk260 ∧ w8.heap.size ≤ w266.heap.size; omega)⟩
   refine s_do (t_alloc (cs := [.int .i64 0, .int .i64 0, .int .i64 0, .int .i64 0, .int .i64 0]) Try.zeroValue28 rfl rfl rfl (fun bk292 w293 ebk292 sbk292 B294 u295 => ?_))
   have zu295 := u295.size
   refine s_next ((Upd.refl _ _).nx u295) (s_do (t_call own9 rfl rfl rfl rfl (smallD_v u xs ao b o cap 6 _ (hx.keep (E269.nx u295) (fun _ h => h)) hxl hxs (by decide) (by omega)) (fun v298 w299 r301 => ?_)))
   obtain ⟨⟨aoD297, gD297, cD297, l, hle, rfl, haD297⟩, u300⟩ := r301
   have zu300 := u300.size
   have hll : l.length ≤ 6 := by rw [hle]; exact dsOf_len _ _
   have hod : ∀ d ∈ l, okDty d = true := by rw [hle]; exact dsOf_ok hxs
   have lt_gD297 := haD297.lt
   refine s_next ((Upd.refl _ _).nx u300) (s_do ?_)
   have B303 := (B294.kx u300)
   refine t_st (vs := [.int .i64 ((smR u).rest), .int .i64 ((smR u).span), .int .i64 ((smR u).work), .int .i64 ((smR u).week), .int .i64 ((smR u).ww)]) Try.sizeOf28 rfl rfl rfl B303 rfl rfl rfl rfl (fun w304 sw304 B306 u305 => ?_)
   have zu305 := u305.size
   have B306 : Blk w304 bk292 28 [.int .i64 ((smR u).rest), .int .i64 ((smR u).span), .int .i64 ((smR u).work), .int .i64 ((smR u).week), .int .i64 ((smR u).ww)] := B306
   refine s_next ((Upd.refl _ _).next u305 (fun i hi (h : i = bk292) => show w16.heap.size ≤ i ∨ (False) by first | omega | exact .inr h)) (y_assign rfl rfl rfl (y_assign rfl rfl rfl (y_assign rfl rfl rfl (s_do ?_))))
   have B308 := ((((B262.kx u267).kx u295).kx u300).keep u305 (by omega))
   refine t_st (vs := [.int .u8 y.c, .int .u8 y.d, .int .u8 y.e]) Try.sizeOf46 rfl rfl rfl B308 rfl rfl rfl rfl (fun w309 sw309 B311 u310 => ?_)
   have zu310 := u310.size
   have B311 : Blk w309 bk260 46 [.int .u8 y.c, .int .u8 y.d, .int .u8 y.e] := B311
   refine s_next ((Upd.refl _ _).next u310 (fun i hi (h : i = bk260) => show w16.heap.size ≤ i ∨ (False) by first | omega | exact .inr h)) (s_nil ?_)
   have B313 := (B306.keep u310 (by omega))
   have D314 := ((haD297.keep u305 (fun hb => show ¬ (gD297 = bk292) by first | omega | assumption)).keep u310 (fun hb => show ¬ (gD297 = bk260) by first | omega | assumption))
   exact hK13 (w293.heap.size, bk292, bk260, aoD297, gD297, cD297, l) _ _ ⟨rfl, rfl, rfl, rfl, rfl, trivial⟩ ⟨((((((((Upd.refl _ _).next u17 (fun _ _ h => h.elim)).next u263 (fun _ _ h => h.elim)).next u267 (fun _ _ h => h.elim)).next u295 (fun _ _ h => h.elim)).next u300 (fun _ _ h => h.elim)).next u305 (fun i hi h => by omega)).next u310 (fun i hi h => by omega)), B313, B311, D314, hle, (by show w8.heap.size ≤ bk292 ∧ w8.heap.size ≤ bk260 ∧ bk292 ≠ bk260 ∧ w8.heap.size ≤ w293.heap.size; omega)⟩
  refine s_do (t_alloc (cs := [.int .i64 0, .int .i64 0, .int .i64 0, .int .i64 0, .int .i64 0]) Try.zeroValue28 rfl rfl rfl (fun bk315 w316 ebk315 sbk315 B317 u318 => ?_))
  have zu318 := u318.size
  refine s_next ((Upd.refl _ _).nx u318) (s_do (t_call own8 rfl rfl rfl rfl (small_c u _ _ _ _ hu) (fun v320 w321 r323 => ?_)))
  obtain ⟨rfl, u322⟩ := r323
  have zu322 := u322.size
  refine s_next ((Upd.refl _ _).nx u322) (s_do (t_call own9 rfl rfl rfl rfl (smallD_v u xs ao b o cap 6 _ (hx.keep ((E264.nx u318).nx u322) (fun _ h => h)) hxl hxs (by decide) (by omega)) (fun v326 w327 r329 => ?_)))
  obtain ⟨⟨aoD325, gD325, cD325, l, hle, rfl, haD325⟩, u328⟩ := r329
  have zu328 := u328.size
  have hll : l.length ≤ 6 := by rw [hle]; exact dsOf_len _ _
  have hod : ∀ d ∈ l, okDty d = true := by rw [hle]; exact dsOf_ok hxs
  have lt_gD325 := haD325.lt
  refine s_next ((Upd.refl _ _).nx u328) (s_do ?_)
  have B331 := ((B317.kx u322).kx u328)
  refine t_st (vs := [.int .i64 ((smR u).rest), .int .i64 ((smR u).span), .int .i64 ((smR u).work), .int .i64 ((smR u).week), .int .i64 ((smR u).ww)]) Try.sizeOf28 rfl rfl rfl B331 rfl rfl rfl rfl (fun w332 sw332 B334 u333 => ?_)
  have zu333 := u333.size
  have B334 : Blk w332 bk315 28 [.int .i64 ((smR u).rest), .int .i64 ((smR u).span), .int .i64 ((smR u).work), .int .i64 ((smR u).week), .int .i64 ((smR u).ww)] := B334
  refine s_next ((Upd.refl _ _).next u333 (fun i hi (h : i = bk315) => show w16.heap.size ≤ i ∨ (False) by first | omega | exact .inr h)) (y_assign rfl rfl rfl (y_assign rfl rfl rfl (y_assign rfl rfl rfl (s_do ?_))))
  have B336 := ((((B262.kx u318).kx u322).kx u328).keep u333 (by omega))
  refine t_st (vs := [.int .u8 y.c, .int .u8 y.d, .int .u8 y.e]) Try.sizeOf46 rfl rfl rfl B336 rfl rfl rfl rfl (fun w337 sw337 B339 u338 => ?_)
  have zu338 := u338.size
  have B339 : Blk w337 bk260 46 [.int .u8 y.c, .int .u8 y.d, .int .u8 y.e] := B339
  refine s_next ((Upd.refl _ _).next u338 (fun i hi (h : i = bk260) => show w16.heap.size ≤ i ∨ (False) by first | omega | exact .inr h)) (s_nil ?_)
  have B341 := (B334.keep u338 (by omega))
  have D342 := ((haD325.keep u333 (fun hb => show ¬ (gD325 = bk315) by first | omega | assumption)).keep u338 (fun hb => show ¬ (gD325 = bk260) by first | omega | assumption))
  exact hK13 (w321.heap.size, bk315, bk260, aoD325, gD325, cD325, l) _ _ ⟨rfl, rfl, rfl, rfl, rfl, trivial⟩ ⟨((((((((Upd.refl _ _).next u17 (fun _ _ h => h.elim)).next u263 (fun _ _ h => h.elim)).next u318 (fun _ _ h => h.elim)).next u322 (fun _ _ h => h.elim)).next u328 (fun _ _ h => h.elim)).next u333 (fun i hi h => by omega)).next u338 (fun i hi h => by omega)), B341, B339, D342, hle, (by show w8.heap.size ≤ bk315 ∧ w8.heap.size ≤ bk260 ∧ bk315 ≠ bk260 ∧ w8.heap.size ≤ w321.heap.size; omega)⟩
 intro gg w14 hW
 obtain ⟨bs, b5, b9, al, gl, cl, l⟩ := gg
 change WC _ _ _ _ _ _ [(5, .pointer (some ⟨b5, 0, none⟩)), (6, .slice al l.length cl), (7, .int .u16 y.a), (8, .int .u8 y.b), (9, .pointer (some ⟨b9, 0, none⟩))] _
 change Upd (fun _ => False) w8 w14 ∧ (Blk w14 b5 28 [.int .i64 ((smR u).rest), .int .i64 ((smR u).span), .int .i64 ((smR u).work), .int .i64 ((smR u).week), .int .i64 ((smR u).ww)]) ∧ (Blk w14 b9 46 [.int .u8 y.c, .int .u8 y.d, .int .u8 y.e]) ∧ (Acc encDty 4 40 bs w14 al gl cl l) ∧ (l = dsOf xs 6) ∧ (w8.heap.size ≤ b5 ∧ w8.heap.size ≤ b9 ∧ b5 ≠ b9 ∧ w8.heap.size ≤ bs) at hW
 obtain ⟨u15, I343, I344, I345, I346, I347⟩ := hW
 have zu15 := u15.size
 have hb5 := I343; clear I343
 have hb9 := I344; clear I344
 have hla := I345; clear I345
 have hle := I346; clear I346
 have hbb := I347; clear I347
 have lt_gl := hla.lt
 have hll : l.length ≤ 6 := by rw [hle]; exact dsOf_len _ _
 have hod : ∀ d ∈ l, okDty d = true := by rw [hle]; exact dsOf_ok hxs
 have lt_b5 := hb5.lt
 have lt_b9 := hb9.lt
 refine c_seq fun K349 hK349 => (c_drawnM follows (fun _ => False) (.look 0 (.look 1 (.act 2 (.act 3 (.look 4 (.look 5 (.look 6 (.look 7 (.look 8 (.look 9 (.look 10 (.look 11 (.look 12 .done))))))))) .stop) .stop))) (by kernel_rfl) fun w350 u351 => ?_)
 have zu351 := u351.size
 have B353 := (hb5.kx u351)
 refine y_loadN (vs := [.int .i64 ((smR u).rest), .int .i64 ((smR u).span), .int .i64 ((smR u).work), .int .i64 ((smR u).week), .int .i64 ((smR u).ww)]) Try.isAgg28 Try.sizeOf28 rfl rfl rfl (B353.at.sub 0 5) rfl (fun h => h) (y_move rfl rfl rfl (s_do ?_))
 have D355 := (hla.keep u351 (fun _ h => h))
 refine t_call own11 rfl rfl rfl rfl (duties_c l al gl 0 cl _ (D355.sl (fun _ => rfl)) (by omega) (by omega)) (fun v356 w357 r359 => ?_)
 obtain ⟨⟨aoY354, gY354, cY354, rfl, haY354⟩, u358⟩ := r359
 have zu358 := u358.size
 have lt_gY354 := haY354.lt
 refine s_next ((Upd.refl _ _).nx u358) (s_do (t_call own10 rfl rfl rfl rfl (Rested_v aoY354 gY354 0 cY354 _ (haY354.sl (fun _ => rfl)) (chk_of hr (by omega) hod) (by omega)) (fun v361 w362 r364 => ?_)))
 obtain ⟨⟨at1, rule1, rfl, hR1⟩, u363⟩ := r364
 have zu363 := u363.size
 have hat1 := (rest_at hr hod hR1).1
 refine s_next ((Upd.refl _ _).nx u363) (y_move rfl rfl rfl (y_extract rfl rfl rfl rfl (y_extract rfl rfl rfl rfl (y_extract rfl rfl rfl rfl (y_extract rfl rfl rfl rfl (y_assign rfl rfl rfl (y_assign rfl rfl rfl (y_assign rfl rfl rfl (y_assign rfl rfl rfl (s_nil (hK349 _ _ (c_seq fun K366 hK366 => (c_region (t_move rfl rfl rfl (t_conv Try.underlying5 Try.underlying3 rfl rfl rfl (IntWalk.i64_in _ (by omega)) (t_rem rfl rfl rfl rfl (by omega) (by omega) (t_ari rfl rfl rfl rfl rfl (by omega) (t_same 58 (v := .int .i64 len) rfl (congrArg (Value.int .i64) hne.symm) (t_move rfl rfl rfl (t_conv Try.underlying45 Try.underlying3 rfl rfl rfl (IntWalk.i64_in _ (by omega)) (t_rem rfl rfl rfl rfl (by omega) (by omega) (t_same 61 (v := .int .i64 f) rfl (congrArg (Value.int .i64) hfe.symm) (t_assign rfl rfl rfl ?_)))))))))))))))))))))))
 refine t_assign rfl rfl rfl (t_nil' (hK366 _ _ (c_seq fun K367 hK367 => (c_drawnM follows (fun _ => False) (.look 0 (.look 1 (.look 3 (.look 4 (.act 2 (.act 5 (.look 6 (.look 7 (.look 8 (.look 9 (.look 10 .done))))) .stop) .stop))))) (by kernel_rfl) fun w368 u369 => ?_))))
 have zu369 := u369.size
 have B371 := ((((hb5.kx u351).kx u358).kx u363).kx u369)
 refine y_loadN (vs := [.int .i64 ((smR u).rest), .int .i64 ((smR u).span), .int .i64 ((smR u).work), .int .i64 ((smR u).week), .int .i64 ((smR u).ww)]) Try.isAgg28 Try.sizeOf28 rfl rfl rfl (B371.at.sub 0 5) rfl (fun h => h) (y_move rfl rfl rfl (y_move rfl rfl rfl (y_move rfl rfl rfl (s_do ?_))))
 have D373 := (((D355.keep u358 (fun _ h => h)).keep u363 (fun _ h => h)).keep u369 (fun _ h => h))
 refine t_call own11 rfl rfl rfl rfl (duties_c l al gl 0 cl _ (D373.sl (fun _ => rfl)) (by omega) (by omega)) (fun v374 w375 r377 => ?_)
 obtain ⟨⟨aoY372, gY372, cY372, rfl, haY372⟩, u376⟩ := r377
 have zu376 := u376.size
 have E378 := (((((E11.nx u15).nx u351).nx u358).nx u363).nx u369).nx u376
 have lt_gY372 := haY372.lt
 refine s_next ((Upd.refl _ _).nx u376) (s_do (t_call own14 rfl rfl rfl rfl (Next_v aoY372 gY372 0 cY372 f len _ (haY372.sl (fun _ => rfl)) (chk_of hr (by omega) hod) hf hlen (by omega)) (fun v379 w380 r382 => ?_)))
 rcases r382 with ⟨rfl, hB, u381⟩ | ⟨t, rfl, hB, ⟨hMt, htl, hbt, hno⟩, u381⟩ | ⟨rfl, hB, hno, u381⟩
 ·
  have zu381 := u381.size
  refine s_next ((Upd.refl _ _).nx u381) (y_move rfl rfl rfl (y_extract rfl rfl rfl rfl (y_extract rfl rfl rfl rfl (y_assign rfl rfl rfl (y_assign rfl rfl rfl (s_nil (hK367 _ _ (c_seq fun K384 hK384 => (c_seq fun K385 hK385 => (c_region (t_move rfl rfl rfl (t_cmp rfl rfl rfl rfl rfl (t_samehd (v := .bool false) rfl (t_nil' (hK385 _ _ (c_cond_f rfl (c_skip (hK384 _ _ (c_seq fun K386 hK386 => (c_seq fun K387 hK387 => (c_region (t_move rfl rfl rfl (t_cmp rfl rfl rfl rfl rfl ?_)))))))))))))))))))))))
  refine t_nil' (hK387 _ _ (c_condp rfl (fun g74 => ?_) (fun g74 => ?_)))
  ·
   refine c_seq fun K388 hK388 => (c_region (t_move rfl rfl rfl (t_cmp rfl rfl rfl rfl rfl (t_samehd (v := .bool true) rfl (t_move rfl rfl rfl (t_move rfl rfl rfl (t_cmp rfl rfl rfl rfl rfl (t_samehd (v := .bool true) rfl (t_pick_t rfl rfl rfl rfl (t_move rfl rfl rfl (t_call own13 rfl rfl rfl rfl (known_c _) (fun v389 w390 r392 => ?_))))))))))))
   obtain ⟨rfl, u391⟩ := r392
   have zu391 := u391.size
   refine t_pick_t rfl rfl rfl rfl (t_assign rfl rfl rfl (t_nil' (hK388 _ _ (c_ret (f_ret1 (v := .bool true) Try.results4 rfl ?_)))))
   exact ⟨rfl, ((E378.nx u381).nx u391)⟩
  exact absurd (hat1.1 (by omega)) hB
 ·
  have zu381 := u381.size
  have hMf := mxF_ge (l := (srtS (l.map lngS))) (f := f) _ (Nat.le_refl _)
  refine s_next ((Upd.refl _ _).nx u381) (y_move rfl rfl rfl (y_extract rfl rfl rfl rfl (y_extract rfl rfl rfl rfl (y_assign rfl rfl rfl (y_assign rfl rfl rfl (s_nil (hK367 _ _ (c_seq fun K395 hK395 => (c_seq fun K396 hK396 => (c_region (t_move rfl rfl rfl (t_cmp rfl rfl rfl rfl rfl (t_samehd (v := .bool false) rfl (t_nil' (hK396 _ _ (c_cond_f rfl (c_skip (hK395 _ _ (c_seq fun K397 hK397 => (c_seq fun K398 hK398 => (c_region (t_move rfl rfl rfl (t_cmp rfl rfl rfl rfl rfl ?_)))))))))))))))))))))))
  refine t_nil' (hK398 _ _ (c_condp rfl (fun g74 => ?_) (fun g74 => ?_)))
  ·
   exact absurd (hat1.2 hB) (by omega)
  refine c_skip (hK397 _ _ (c_seq fun K399 hK399 => (c_seq fun K400 hK400 => (c_region (t_assign rfl rfl rfl (t_nil' (hK400 _ _ (c_block (c_loop (γ := Nat) (fun k => [(5, .pointer (some ⟨b5, 0, none⟩)), (6, .slice al l.length cl), (9, .pointer (some ⟨b9, 0, none⟩)), (14, .int .i64 len), (15, .int .i64 (mxD l f k)), (16, .int .i64 t), (17, .int .i64 0), (18, .int .i64 (k : Int))]) (fun k w => Upd (fun _ => False) w380 w ∧ (k ≤ l.length)) (fun k => l.length - k) 0 ⟨rfl, rfl, rfl, rfl, rfl, rfl, rfl, rfl, trivial⟩ ⟨Upd.refl _ _, (Nat.zero_le _)⟩ ?_)))))))))
  intro k w402 hW K401 hK401
  obtain ⟨u403, I404⟩ := hW
  have zu403 := u403.size
  have hk := I404; clear I404
  refine c_seq fun K406 hK406 => (c_seq fun K407 hK407 => (c_region (t_move rfl rfl rfl (t_move rfl rfl rfl (t_len Try.underlying30 rfl rfl rfl rfl (t_cmp rfl rfl rfl rfl rfl (t_nil' (hK407 _ _ (c_condp rfl (fun g87 => ?_) (fun g87 => ?_))))))))))
  ·
   refine c_skip (hK406 _ _ (c_seq fun K408 hK408 => (c_block (c_region (t_move rfl rfl rfl (t_move rfl rfl rfl (t_move rfl rfl rfl ?_)))))))
   have D409 := (((D373.keep u376 (fun _ h => h)).keep u381 (fun _ h => h)).keep u403 (fun _ h => h))
   have i410 : k < l.length := (by omega)
   refine t_index (j := k) Try.underlying30 Try.sizeOf40 rfl rfl rfl rfl ((D409.sl (fun _ => rfl)).addr (by omega)) rfl i410 (t_field Try.underlying40 rfl Try.sizeOf38 (0 + k * 4 + 2) rfl rfl rfl rfl (t_field Try.underlying38 rfl Try.sizeOf3 (0 + k * 4 + 2 + 1) rfl rfl rfl rfl (t_load Try.isAgg3 rfl rfl rfl (((D409.sl (fun _ => rfl)).at_ k (by omega)) 3 _ rfl) (t_max rfl rfl rfl rfl (t_assign rfl rfl rfl (t_nil' (hK408 _ _ (c_region (t_move rfl rfl rfl (t_ari rfl rfl rfl rfl rfl (by omega) (t_assign rfl rfl rfl (t_nil' ?_))))))))))))
   exact hK401 (k + 1) _ _ (by omega) ⟨rfl, rfl, rfl, rfl, (congrArg (fun z => some (Value.int .i64 z)) (mxD_succ (by omega)).symm), rfl, rfl, rfl, trivial⟩ ⟨u403, (by omega)⟩
  have hke : k = l.length := by omega
  have hmr := mxF_rng hf (lngs_ok hod) (srtS (l.map lngS)).length (Nat.le_refl _)
  have hME : mxD l f k = (mxF (srtS (l.map lngS)) f (srtS (l.map lngS)).length) := by rw [hke, mxD_eq]
  refine c_same 15 (v := .int .i64 (mxF (srtS (l.map lngS)) f (srtS (l.map lngS)).length)) rfl (congrArg (Value.int .i64) hME) (c_exit (hK399 _ _ (c_seq fun K411 hK411 => (c_seq fun K412 hK412 => (c_region (t_move rfl rfl rfl (t_cmp rfl rfl rfl rfl rfl (t_samehd (v := .bool false) rfl (t_nil' (hK412 _ _ (c_cond_f rfl (c_skip (hK411 _ _ (c_seq fun K413 hK413 => (c_seq fun K414 hK414 => (c_region (t_move rfl rfl rfl (t_move rfl rfl rfl (t_cmp rfl rfl rfl rfl rfl (t_same 139 (v := .bool false) rfl (congrArg Value.bool (decide_eq_false (by omega))) (t_move rfl rfl rfl (t_move rfl rfl rfl (t_move rfl rfl rfl ?_)))))))))))))))))))))))
  refine t_ari rfl rfl rfl rfl rfl (by omega) (t_cmp rfl rfl rfl rfl rfl (t_same 144 (v := .bool false) rfl (congrArg Value.bool (decide_eq_false (by omega))) (t_pick_f rfl rfl rfl rfl (t_nil' (hK414 _ _ (c_cond_f rfl (c_skip (hK413 _ _ (c_seq fun K415 hK415 => (c_seq fun K416 hK416 => (c_drawnM follows (fun _ => False) (.look 0 (.look 1 (.look 3 (.look 4 (.look 5 (.look 6 (.act 2 (.act 7 (.act 8 (.act 9 (.act 10 (.look 11 (.look 12 (.look 13 (.look 14 (.look 15 (.look 16 (.look 17 (.look 18 (.look 19 .done))))))))) .stop) .stop) .stop) .stop) .stop))))))) (by kernel_rfl) fun w417 u418 => ?_)))))))))))
  have zu418 := u418.size
  have B420 := ((((((((hb5.kx u351).kx u358).kx u363).kx u369).kx u376).kx u381).kx u403).kx u418)
  refine y_loadN (vs := [.int .i64 ((smR u).rest), .int .i64 ((smR u).span), .int .i64 ((smR u).work), .int .i64 ((smR u).week), .int .i64 ((smR u).ww)]) Try.isAgg28 Try.sizeOf28 rfl rfl rfl (B420.at.sub 0 5) rfl (fun h => h) (y_move rfl rfl rfl (y_move rfl rfl rfl (y_move rfl rfl rfl (y_move rfl rfl rfl (y_ari rfl rfl rfl rfl rfl (by omega) (s_do ?_))))))
  have D422 := ((((D373.keep u376 (fun _ h => h)).keep u381 (fun _ h => h)).keep u403 (fun _ h => h)).keep u418 (fun _ h => h))
  refine t_call own11 rfl rfl rfl rfl (duties_c l al gl 0 cl _ (D422.sl (fun _ => rfl)) (by omega) (by omega)) (fun v423 w424 r426 => ?_)
  obtain ⟨⟨aoY421, gY421, cY421, rfl, haY421⟩, u425⟩ := r426
  have zu425 := u425.size
  have lt_gY421 := haY421.lt
  refine s_next ((Upd.refl _ _).nx u425) (s_do (t_call own15 rfl rfl rfl rfl (duty_c t (t + len) _) (fun v428 w429 r431 => ?_)))
  obtain ⟨rfl, u430⟩ := r431
  have zu430 := u430.size
  refine s_next ((Upd.refl _ _).nx u430) (s_do (t_bslice (ps := [(0, .agg #[.int .i64 t, .int .i64 t, .int .i64 (t + len), .int .i64 (t + len)])]) (cs := [.int .i64 t, .int .i64 t, .int .i64 (t + len), .int .i64 (t + len)]) (e := 40) rfl rfl ⟨rfl, rfl⟩ (fun w => by kernel_rfl) (fun bk433 w434 ebk433 sbk433 B435 u436 => ?_)))
  have zu436 := u436.size
  refine s_next ((Upd.refl _ _).nx u436) (s_do ?_)
  have D438 := ((haY421.keep u430 (fun _ h => h)).keep u436 (fun _ h => h))
  refine t_append (z := .agg #[.int .i64 0, .int .i64 0, .int .i64 0, .int .i64 0]) (bytes := 32) (k := 4) (base := w417.heap.size) (⟨t, t, (t + len), (t + len)⟩ : Dty) Try.underlying30 (by kernel_rfl) rfl (by decide) (fun _ => rfl) (by intro x; simp [encDty, Value.oneCell']) rfl rfl rfl rfl D438 B435 (by omega) (by omega) (by decide) (fun ao439 gb440 cp441 w442 A443 u444 gegb440 lngb440 => ?_)
  have zu444 := u444.size
  have lt_gb440 := A443.lt
  refine s_next ((Upd.refl _ _).next u444 (fun i hi (h : (i = gY421 ∧ w417.heap.size ≤ i)) => show w417.heap.size ≤ i ∨ (False) by first | omega | exact .inr h)) (s_do (t_call own10 rfl rfl rfl rfl (Rested_v ao439 gb440 0 cp441 _ (A443.sl (fun _ => rfl)) (chk_of hr (by rw [List.length_append, List.length_singleton]; omega) (ok_snoc hod (okD2 (by omega) (by omega) (by omega)))) (by omega)) (fun v446 w447 r449 => ?_)))
  obtain ⟨⟨atn, rulen, rfl, hRn⟩, u448⟩ := r449
  have zu448 := u448.size
  have e9 : atn = -1 := (rest_new hr hod (okD2 (by omega) (by omega) (by omega)) hRn hB).1 hbt
  subst e9
  refine s_next ((Upd.refl _ _).nx u448) (y_move rfl rfl rfl (y_extract rfl rfl rfl rfl (y_extract rfl rfl rfl rfl (y_extract rfl rfl rfl rfl (y_extract rfl rfl rfl rfl (y_assign rfl rfl rfl (y_assign rfl rfl rfl (y_assign rfl rfl rfl (y_assign rfl rfl rfl (s_nil (hK416 _ _ (c_seq fun K451 hK451 => (c_region (t_move rfl rfl rfl (t_cmp rfl rfl rfl rfl rfl (t_samehd (v := .bool false) rfl (t_move rfl rfl rfl (t_move rfl rfl rfl (t_cmp rfl rfl rfl rfl rfl (t_samehd (v := .bool false) rfl (t_pick_f rfl rfl rfl rfl (t_nil' (hK451 _ _ ?_)))))))))))))))))))))))
  refine c_cond_f rfl (c_skip (hK415 _ _ (c_seq fun K452 hK452 => (c_seq fun K453 hK453 => (c_region (t_assign rfl rfl rfl (t_nil' (hK453 _ _ (c_block (c_rounds 4 (WR.weak [(5, .pointer (some ⟨b5, 0, none⟩)), (6, .slice al l.length cl), (9, .pointer (some ⟨b9, 0, none⟩)), (14, .int .i64 len), (15, .int .i64 (mxF (srtS (l.map lngS)) f (srtS (l.map lngS)).length)), (16, .int .i64 t), (27, .int .i64 0)] ⟨rfl, rfl, rfl, rfl, rfl, rfl, rfl, trivial⟩ (r_round fun K454 hK454 => (c_seq fun K455 hK455 => (c_seq fun K456 hK456 => (c_region (t_move rfl rfl rfl (t_cmp rfl rfl rfl rfl rfl (t_samehd (v := .bool true) rfl (t_nil' (hK456 _ _ (c_cond_t rfl (c_skip (hK455 _ _ ?_)))))))))))))))))))))))
  refine c_cut (γ := Nat) (fun zz => [(5, .pointer (some ⟨b5, 0, none⟩)), (6, .slice al l.length cl), (9, .pointer (some ⟨b9, 0, none⟩)), (14, .int .i64 len), (15, .int .i64 (mxF (srtS (l.map lngS)) f (srtS (l.map lngS)).length)), (16, .int .i64 t), (27, .int .i64 0)]) (fun zz w => Upd (fun _ => False) w447 w) (fun K458 hK458 => ?_) ?_
  ·
   refine c_block (c_seq fun K461 hK461 => (c_region (t_move rfl rfl rfl (t_ari rfl rfl rfl rfl rfl (by omega) (t_move rfl rfl rfl (t_indexArr (j := 0) (0) Try.underlying46 Try.sizeOf5 rfl rfl rfl rfl rfl (by decide) rfl ?_))))))
   have B462 := (((((((((((((hb9.kx u351).kx u358).kx u363).kx u369).kx u376).kx u381).kx u403).kx u418).kx u425).kx u430).kx u436).keep u444 (by omega)).kx u448)
   refine t_load Try.isAgg5 rfl rfl rfl (B462.get rfl) (t_conv Try.underlying5 Try.underlying3 rfl rfl rfl (IntWalk.i64_in _ (by omega)) (t_ari rfl rfl rfl rfl rfl (by omega) (t_assign rfl rfl rfl (t_nil' (hK461 _ _ (c_seq fun K463 hK463 => (c_region (t_move rfl rfl rfl (t_move rfl rfl rfl (t_cmp rfl rfl rfl rfl rfl (t_nil' (hK463 _ _ (c_condp rfl (fun g181 => ?_) (fun g181 => ?_))))))))))))))
   ·
    refine c_seq fun K464 hK464 => (c_drawnM follows (fun _ => False) (.look 0 (.look 1 (.look 3 (.look 4 (.look 5 (.look 6 (.act 2 (.act 7 (.act 8 (.act 9 (.act 10 (.look 11 (.look 12 (.look 13 (.look 14 (.look 15 (.look 16 (.look 17 (.look 18 (.look 19 .done))))))))) .stop) .stop) .stop) .stop) .stop))))))) (by kernel_rfl) fun w465 u466 => ?_)
    have zu466 := u466.size
    have B468 := ((((((((((((((hb5.kx u351).kx u358).kx u363).kx u369).kx u376).kx u381).kx u403).kx u418).kx u425).kx u430).kx u436).keep u444 (by omega)).kx u448).kx u466)
    refine y_loadN (vs := [.int .i64 ((smR u).rest), .int .i64 ((smR u).span), .int .i64 ((smR u).work), .int .i64 ((smR u).week), .int .i64 ((smR u).ww)]) Try.isAgg28 Try.sizeOf28 rfl rfl rfl (B468.at.sub 0 5) rfl (fun h => h) (y_move rfl rfl rfl (y_move rfl rfl rfl (y_move rfl rfl rfl (y_move rfl rfl rfl (y_ari rfl rfl rfl rfl rfl (by omega) (s_do ?_))))))
    have D470 := ((((((D422.keep u425 (fun _ h => h)).keep u430 (fun _ h => h)).keep u436 (fun _ h => h)).keep u444 (fun hb => show ¬ ((gl = gY421 ∧ w417.heap.size ≤ gl)) by first | omega | assumption)).keep u448 (fun _ h => h)).keep u466 (fun _ h => h))
    refine t_call own11 rfl rfl rfl rfl (duties_c l al gl 0 cl _ (D470.sl (fun _ => rfl)) (by omega) (by omega)) (fun v471 w472 r474 => ?_)
    obtain ⟨⟨aoY469, gY469, cY469, rfl, haY469⟩, u473⟩ := r474
    have zu473 := u473.size
    have lt_gY469 := haY469.lt
    refine s_next ((Upd.refl _ _).nx u473) (s_do (t_call own15 rfl rfl rfl rfl (duty_c ((t - 1) - y.c) (((t - 1) - y.c) + len) _) (fun v476 w477 r479 => ?_)))
    obtain ⟨rfl, u478⟩ := r479
    have zu478 := u478.size
    refine s_next ((Upd.refl _ _).nx u478) (s_do (t_bslice (ps := [(0, .agg #[.int .i64 ((t - 1) - y.c), .int .i64 ((t - 1) - y.c), .int .i64 (((t - 1) - y.c) + len), .int .i64 (((t - 1) - y.c) + len)])]) (cs := [.int .i64 ((t - 1) - y.c), .int .i64 ((t - 1) - y.c), .int .i64 (((t - 1) - y.c) + len), .int .i64 (((t - 1) - y.c) + len)]) (e := 40) rfl rfl ⟨rfl, rfl⟩ (fun w => by kernel_rfl) (fun bk481 w482 ebk481 sbk481 B483 u484 => ?_)))
    have zu484 := u484.size
    refine s_next ((Upd.refl _ _).nx u484) (s_do ?_)
    have D486 := ((haY469.keep u478 (fun _ h => h)).keep u484 (fun _ h => h))
    refine t_append (z := .agg #[.int .i64 0, .int .i64 0, .int .i64 0, .int .i64 0]) (bytes := 32) (k := 4) (base := w465.heap.size) (⟨((t - 1) - y.c), ((t - 1) - y.c), (((t - 1) - y.c) + len), (((t - 1) - y.c) + len)⟩ : Dty) Try.underlying30 (by kernel_rfl) rfl (by decide) (fun _ => rfl) (by intro x; simp [encDty, Value.oneCell']) rfl rfl rfl rfl D486 B483 (by omega) (by omega) (by decide) (fun ao487 gb488 cp489 w490 A491 u492 gegb488 lngb488 => ?_)
    have zu492 := u492.size
    have lt_gb488 := A491.lt
    refine s_next ((Upd.refl _ _).next u492 (fun i hi (h : (i = gY469 ∧ w465.heap.size ≤ i)) => show w465.heap.size ≤ i ∨ (False) by first | omega | exact .inr h)) (s_do (t_call own10 rfl rfl rfl rfl (Rested_v ao487 gb488 0 cp489 _ (A491.sl (fun _ => rfl)) (chk_of hr (by rw [List.length_append, List.length_singleton]; omega) (ok_snoc hod (okD2 (by omega) (by omega) (by omega)))) (by omega)) (fun v494 w495 r497 => ?_)))
    obtain ⟨⟨atn, rulen, rfl, hRn⟩, u496⟩ := r497
    have zu496 := u496.size
    have e9 : atn = (l.length : Int) := ((rest_new hr hod (okD2 (by omega) (by omega) (by omega)) hRn hB).2 (hno ((t - 1) - y.c) (by omega) (by omega))).1
    subst e9
    refine s_next ((Upd.refl _ _).nx u496) (y_move rfl rfl rfl (y_extract rfl rfl rfl rfl (y_extract rfl rfl rfl rfl (y_extract rfl rfl rfl rfl (y_extract rfl rfl rfl rfl (y_assign rfl rfl rfl (y_assign rfl rfl rfl (y_assign rfl rfl rfl (y_assign rfl rfl rfl (s_nil (hK464 _ _ (c_seq fun K499 hK499 => (c_region (t_move rfl rfl rfl (t_cmp rfl rfl rfl rfl rfl (t_samehd (v := .bool false) rfl (t_move rfl rfl rfl (t_move rfl rfl rfl (t_move rfl rfl rfl (t_len Try.underlying30 rfl rfl rfl rfl (t_cmp rfl rfl rfl rfl rfl (t_samehd (v := .bool false) (by simp) (t_pick_f rfl rfl rfl rfl ?_)))))))))))))))))))))))
    refine t_nil' (hK499 _ _ (c_cond_f rfl (c_skip ?_)))
    exact hK458 0 _ _ ⟨rfl, rfl, rfl, rfl, rfl, rfl, rfl, trivial⟩ (((((((Upd.refl _ _).next u466 (fun _ _ h => h.elim)).next u473 (fun _ _ h => h.elim)).next u478 (fun _ _ h => h.elim)).next u484 (fun _ _ h => h.elim)).next u492 (fun i hi h => by omega)).next u496 (fun _ _ h => h.elim))
   refine c_skip ?_
   exact hK458 0 _ _ ⟨rfl, rfl, rfl, rfl, rfl, rfl, rfl, trivial⟩ (Upd.refl _ _)
  intro zz w459 u460
  have zu460 := u460.size
  refine c_region (t_move rfl rfl rfl (t_ari rfl rfl rfl rfl rfl (by omega) (t_samehd (v := .int .i64 1) rfl (t_assign rfl rfl rfl (t_nil' (hK454 _ _ (WR.weak [(5, .pointer (some ⟨b5, 0, none⟩)), (6, .slice al l.length cl), (9, .pointer (some ⟨b9, 0, none⟩)), (14, .int .i64 len), (15, .int .i64 (mxF (srtS (l.map lngS)) f (srtS (l.map lngS)).length)), (16, .int .i64 t), (27, .int .i64 1)] ⟨rfl, rfl, rfl, rfl, rfl, rfl, rfl, trivial⟩ (r_round fun K501 hK501 => (c_seq fun K502 hK502 => (c_seq fun K503 hK503 => (c_region (t_move rfl rfl rfl (t_cmp rfl rfl rfl rfl rfl (t_samehd (v := .bool true) rfl (t_nil' (hK503 _ _ (c_cond_t rfl (c_skip (hK502 _ _ (c_cut (γ := Nat) (fun zz => [(5, .pointer (some ⟨b5, 0, none⟩)), (6, .slice al l.length cl), (9, .pointer (some ⟨b9, 0, none⟩)), (14, .int .i64 len), (15, .int .i64 (mxF (srtS (l.map lngS)) f (srtS (l.map lngS)).length)), (16, .int .i64 t), (27, .int .i64 1)]) (fun zz w => Upd (fun _ => False) w459 w) (fun K505 hK505 => ?_) ?_))))))))))))))))))))
  ·
   refine c_block (c_seq fun K508 hK508 => (c_region (t_move rfl rfl rfl (t_ari rfl rfl rfl rfl rfl (by omega) (t_move rfl rfl rfl (t_indexArr (j := 1) (1) Try.underlying46 Try.sizeOf5 rfl rfl rfl rfl rfl (by decide) rfl ?_))))))
   have B509 := ((((((((((((((hb9.kx u351).kx u358).kx u363).kx u369).kx u376).kx u381).kx u403).kx u418).kx u425).kx u430).kx u436).keep u444 (by omega)).kx u448).kx u460)
   refine t_load Try.isAgg5 rfl rfl rfl (B509.get rfl) (t_conv Try.underlying5 Try.underlying3 rfl rfl rfl (IntWalk.i64_in _ (by omega)) (t_ari rfl rfl rfl rfl rfl (by omega) (t_assign rfl rfl rfl (t_nil' (hK508 _ _ (c_seq fun K510 hK510 => (c_region (t_move rfl rfl rfl (t_move rfl rfl rfl (t_cmp rfl rfl rfl rfl rfl (t_nil' (hK510 _ _ (c_condp rfl (fun g181 => ?_) (fun g181 => ?_))))))))))))))
   ·
    refine c_seq fun K511 hK511 => (c_drawnM follows (fun _ => False) (.look 0 (.look 1 (.look 3 (.look 4 (.look 5 (.look 6 (.act 2 (.act 7 (.act 8 (.act 9 (.act 10 (.look 11 (.look 12 (.look 13 (.look 14 (.look 15 (.look 16 (.look 17 (.look 18 (.look 19 .done))))))))) .stop) .stop) .stop) .stop) .stop))))))) (by kernel_rfl) fun w512 u513 => ?_)
    have zu513 := u513.size
    have B515 := (((((((((((((((hb5.kx u351).kx u358).kx u363).kx u369).kx u376).kx u381).kx u403).kx u418).kx u425).kx u430).kx u436).keep u444 (by omega)).kx u448).kx u460).kx u513)
    refine y_loadN (vs := [.int .i64 ((smR u).rest), .int .i64 ((smR u).span), .int .i64 ((smR u).work), .int .i64 ((smR u).week), .int .i64 ((smR u).ww)]) Try.isAgg28 Try.sizeOf28 rfl rfl rfl (B515.at.sub 0 5) rfl (fun h => h) (y_move rfl rfl rfl (y_move rfl rfl rfl (y_move rfl rfl rfl (y_move rfl rfl rfl (y_ari rfl rfl rfl rfl rfl (by omega) (s_do ?_))))))
    have D517 := (((((((D422.keep u425 (fun _ h => h)).keep u430 (fun _ h => h)).keep u436 (fun _ h => h)).keep u444 (fun hb => show ¬ ((gl = gY421 ∧ w417.heap.size ≤ gl)) by first | omega | assumption)).keep u448 (fun _ h => h)).keep u460 (fun _ h => h)).keep u513 (fun _ h => h))
    refine t_call own11 rfl rfl rfl rfl (duties_c l al gl 0 cl _ (D517.sl (fun _ => rfl)) (by omega) (by omega)) (fun v518 w519 r521 => ?_)
    obtain ⟨⟨aoY516, gY516, cY516, rfl, haY516⟩, u520⟩ := r521
    have zu520 := u520.size
    have lt_gY516 := haY516.lt
    refine s_next ((Upd.refl _ _).nx u520) (s_do (t_call own15 rfl rfl rfl rfl (duty_c ((t - 1) - y.d) (((t - 1) - y.d) + len) _) (fun v523 w524 r526 => ?_)))
    obtain ⟨rfl, u525⟩ := r526
    have zu525 := u525.size
    refine s_next ((Upd.refl _ _).nx u525) (s_do (t_bslice (ps := [(0, .agg #[.int .i64 ((t - 1) - y.d), .int .i64 ((t - 1) - y.d), .int .i64 (((t - 1) - y.d) + len), .int .i64 (((t - 1) - y.d) + len)])]) (cs := [.int .i64 ((t - 1) - y.d), .int .i64 ((t - 1) - y.d), .int .i64 (((t - 1) - y.d) + len), .int .i64 (((t - 1) - y.d) + len)]) (e := 40) rfl rfl ⟨rfl, rfl⟩ (fun w => by kernel_rfl) (fun bk528 w529 ebk528 sbk528 B530 u531 => ?_)))
    have zu531 := u531.size
    refine s_next ((Upd.refl _ _).nx u531) (s_do ?_)
    have D533 := ((haY516.keep u525 (fun _ h => h)).keep u531 (fun _ h => h))
    refine t_append (z := .agg #[.int .i64 0, .int .i64 0, .int .i64 0, .int .i64 0]) (bytes := 32) (k := 4) (base := w512.heap.size) (⟨((t - 1) - y.d), ((t - 1) - y.d), (((t - 1) - y.d) + len), (((t - 1) - y.d) + len)⟩ : Dty) Try.underlying30 (by kernel_rfl) rfl (by decide) (fun _ => rfl) (by intro x; simp [encDty, Value.oneCell']) rfl rfl rfl rfl D533 B530 (by omega) (by omega) (by decide) (fun ao534 gb535 cp536 w537 A538 u539 gegb535 lngb535 => ?_)
    have zu539 := u539.size
    have lt_gb535 := A538.lt
    refine s_next ((Upd.refl _ _).next u539 (fun i hi (h : (i = gY516 ∧ w512.heap.size ≤ i)) => show w512.heap.size ≤ i ∨ (False) by first | omega | exact .inr h)) (s_do (t_call own10 rfl rfl rfl rfl (Rested_v ao534 gb535 0 cp536 _ (A538.sl (fun _ => rfl)) (chk_of hr (by rw [List.length_append, List.length_singleton]; omega) (ok_snoc hod (okD2 (by omega) (by omega) (by omega)))) (by omega)) (fun v541 w542 r544 => ?_)))
    obtain ⟨⟨atn, rulen, rfl, hRn⟩, u543⟩ := r544
    have zu543 := u543.size
    have e9 : atn = (l.length : Int) := ((rest_new hr hod (okD2 (by omega) (by omega) (by omega)) hRn hB).2 (hno ((t - 1) - y.d) (by omega) (by omega))).1
    subst e9
    refine s_next ((Upd.refl _ _).nx u543) (y_move rfl rfl rfl (y_extract rfl rfl rfl rfl (y_extract rfl rfl rfl rfl (y_extract rfl rfl rfl rfl (y_extract rfl rfl rfl rfl (y_assign rfl rfl rfl (y_assign rfl rfl rfl (y_assign rfl rfl rfl (y_assign rfl rfl rfl (s_nil (hK511 _ _ (c_seq fun K546 hK546 => (c_region (t_move rfl rfl rfl (t_cmp rfl rfl rfl rfl rfl (t_samehd (v := .bool false) rfl (t_move rfl rfl rfl (t_move rfl rfl rfl (t_move rfl rfl rfl (t_len Try.underlying30 rfl rfl rfl rfl (t_cmp rfl rfl rfl rfl rfl (t_samehd (v := .bool false) (by simp) (t_pick_f rfl rfl rfl rfl ?_)))))))))))))))))))))))
    refine t_nil' (hK546 _ _ (c_cond_f rfl (c_skip ?_)))
    exact hK505 0 _ _ ⟨rfl, rfl, rfl, rfl, rfl, rfl, rfl, trivial⟩ (((((((Upd.refl _ _).next u513 (fun _ _ h => h.elim)).next u520 (fun _ _ h => h.elim)).next u525 (fun _ _ h => h.elim)).next u531 (fun _ _ h => h.elim)).next u539 (fun i hi h => by omega)).next u543 (fun _ _ h => h.elim))
   refine c_skip ?_
   exact hK505 0 _ _ ⟨rfl, rfl, rfl, rfl, rfl, rfl, rfl, trivial⟩ (Upd.refl _ _)
  intro zz w506 u507
  have zu507 := u507.size
  refine c_region (t_move rfl rfl rfl (t_ari rfl rfl rfl rfl rfl (by omega) (t_samehd (v := .int .i64 2) rfl (t_assign rfl rfl rfl (t_nil' (hK501 _ _ (WR.weak [(5, .pointer (some ⟨b5, 0, none⟩)), (6, .slice al l.length cl), (9, .pointer (some ⟨b9, 0, none⟩)), (14, .int .i64 len), (15, .int .i64 (mxF (srtS (l.map lngS)) f (srtS (l.map lngS)).length)), (16, .int .i64 t), (27, .int .i64 2)] ⟨rfl, rfl, rfl, rfl, rfl, rfl, rfl, trivial⟩ (r_round fun K548 hK548 => (c_seq fun K549 hK549 => (c_seq fun K550 hK550 => (c_region (t_move rfl rfl rfl (t_cmp rfl rfl rfl rfl rfl (t_samehd (v := .bool true) rfl (t_nil' (hK550 _ _ (c_cond_t rfl (c_skip (hK549 _ _ (c_cut (γ := Nat) (fun zz => [(5, .pointer (some ⟨b5, 0, none⟩)), (6, .slice al l.length cl), (9, .pointer (some ⟨b9, 0, none⟩)), (14, .int .i64 len), (15, .int .i64 (mxF (srtS (l.map lngS)) f (srtS (l.map lngS)).length)), (16, .int .i64 t), (27, .int .i64 2)]) (fun zz w => Upd (fun _ => False) w506 w) (fun K552 hK552 => ?_) ?_))))))))))))))))))))
  ·
   refine c_block (c_seq fun K555 hK555 => (c_region (t_move rfl rfl rfl (t_ari rfl rfl rfl rfl rfl (by omega) (t_move rfl rfl rfl (t_indexArr (j := 2) (2) Try.underlying46 Try.sizeOf5 rfl rfl rfl rfl rfl (by decide) rfl ?_))))))
   have B556 := (((((((((((((((hb9.kx u351).kx u358).kx u363).kx u369).kx u376).kx u381).kx u403).kx u418).kx u425).kx u430).kx u436).keep u444 (by omega)).kx u448).kx u460).kx u507)
   refine t_load Try.isAgg5 rfl rfl rfl (B556.get rfl) (t_conv Try.underlying5 Try.underlying3 rfl rfl rfl (IntWalk.i64_in _ (by omega)) (t_ari rfl rfl rfl rfl rfl (by omega) (t_assign rfl rfl rfl (t_nil' (hK555 _ _ (c_seq fun K557 hK557 => (c_region (t_move rfl rfl rfl (t_move rfl rfl rfl (t_cmp rfl rfl rfl rfl rfl (t_nil' (hK557 _ _ (c_condp rfl (fun g181 => ?_) (fun g181 => ?_))))))))))))))
   ·
    refine c_seq fun K558 hK558 => (c_drawnM follows (fun _ => False) (.look 0 (.look 1 (.look 3 (.look 4 (.look 5 (.look 6 (.act 2 (.act 7 (.act 8 (.act 9 (.act 10 (.look 11 (.look 12 (.look 13 (.look 14 (.look 15 (.look 16 (.look 17 (.look 18 (.look 19 .done))))))))) .stop) .stop) .stop) .stop) .stop))))))) (by kernel_rfl) fun w559 u560 => ?_)
    have zu560 := u560.size
    have B562 := ((((((((((((((((hb5.kx u351).kx u358).kx u363).kx u369).kx u376).kx u381).kx u403).kx u418).kx u425).kx u430).kx u436).keep u444 (by omega)).kx u448).kx u460).kx u507).kx u560)
    refine y_loadN (vs := [.int .i64 ((smR u).rest), .int .i64 ((smR u).span), .int .i64 ((smR u).work), .int .i64 ((smR u).week), .int .i64 ((smR u).ww)]) Try.isAgg28 Try.sizeOf28 rfl rfl rfl (B562.at.sub 0 5) rfl (fun h => h) (y_move rfl rfl rfl (y_move rfl rfl rfl (y_move rfl rfl rfl (y_move rfl rfl rfl (y_ari rfl rfl rfl rfl rfl (by omega) (s_do ?_))))))
    have D564 := ((((((((D422.keep u425 (fun _ h => h)).keep u430 (fun _ h => h)).keep u436 (fun _ h => h)).keep u444 (fun hb => show ¬ ((gl = gY421 ∧ w417.heap.size ≤ gl)) by first | omega | assumption)).keep u448 (fun _ h => h)).keep u460 (fun _ h => h)).keep u507 (fun _ h => h)).keep u560 (fun _ h => h))
    refine t_call own11 rfl rfl rfl rfl (duties_c l al gl 0 cl _ (D564.sl (fun _ => rfl)) (by omega) (by omega)) (fun v565 w566 r568 => ?_)
    obtain ⟨⟨aoY563, gY563, cY563, rfl, haY563⟩, u567⟩ := r568
    have zu567 := u567.size
    have lt_gY563 := haY563.lt
    refine s_next ((Upd.refl _ _).nx u567) (s_do (t_call own15 rfl rfl rfl rfl (duty_c ((t - 1) - y.e) (((t - 1) - y.e) + len) _) (fun v570 w571 r573 => ?_)))
    obtain ⟨rfl, u572⟩ := r573
    have zu572 := u572.size
    refine s_next ((Upd.refl _ _).nx u572) (s_do (t_bslice (ps := [(0, .agg #[.int .i64 ((t - 1) - y.e), .int .i64 ((t - 1) - y.e), .int .i64 (((t - 1) - y.e) + len), .int .i64 (((t - 1) - y.e) + len)])]) (cs := [.int .i64 ((t - 1) - y.e), .int .i64 ((t - 1) - y.e), .int .i64 (((t - 1) - y.e) + len), .int .i64 (((t - 1) - y.e) + len)]) (e := 40) rfl rfl ⟨rfl, rfl⟩ (fun w => by kernel_rfl) (fun bk575 w576 ebk575 sbk575 B577 u578 => ?_)))
    have zu578 := u578.size
    refine s_next ((Upd.refl _ _).nx u578) (s_do ?_)
    have D580 := ((haY563.keep u572 (fun _ h => h)).keep u578 (fun _ h => h))
    refine t_append (z := .agg #[.int .i64 0, .int .i64 0, .int .i64 0, .int .i64 0]) (bytes := 32) (k := 4) (base := w559.heap.size) (⟨((t - 1) - y.e), ((t - 1) - y.e), (((t - 1) - y.e) + len), (((t - 1) - y.e) + len)⟩ : Dty) Try.underlying30 (by kernel_rfl) rfl (by decide) (fun _ => rfl) (by intro x; simp [encDty, Value.oneCell']) rfl rfl rfl rfl D580 B577 (by omega) (by omega) (by decide) (fun ao581 gb582 cp583 w584 A585 u586 gegb582 lngb582 => ?_)
    have zu586 := u586.size
    have lt_gb582 := A585.lt
    refine s_next ((Upd.refl _ _).next u586 (fun i hi (h : (i = gY563 ∧ w559.heap.size ≤ i)) => show w559.heap.size ≤ i ∨ (False) by first | omega | exact .inr h)) (s_do (t_call own10 rfl rfl rfl rfl (Rested_v ao581 gb582 0 cp583 _ (A585.sl (fun _ => rfl)) (chk_of hr (by rw [List.length_append, List.length_singleton]; omega) (ok_snoc hod (okD2 (by omega) (by omega) (by omega)))) (by omega)) (fun v588 w589 r591 => ?_)))
    obtain ⟨⟨atn, rulen, rfl, hRn⟩, u590⟩ := r591
    have zu590 := u590.size
    have e9 : atn = (l.length : Int) := ((rest_new hr hod (okD2 (by omega) (by omega) (by omega)) hRn hB).2 (hno ((t - 1) - y.e) (by omega) (by omega))).1
    subst e9
    refine s_next ((Upd.refl _ _).nx u590) (y_move rfl rfl rfl (y_extract rfl rfl rfl rfl (y_extract rfl rfl rfl rfl (y_extract rfl rfl rfl rfl (y_extract rfl rfl rfl rfl (y_assign rfl rfl rfl (y_assign rfl rfl rfl (y_assign rfl rfl rfl (y_assign rfl rfl rfl (s_nil (hK558 _ _ (c_seq fun K593 hK593 => (c_region (t_move rfl rfl rfl (t_cmp rfl rfl rfl rfl rfl (t_samehd (v := .bool false) rfl (t_move rfl rfl rfl (t_move rfl rfl rfl (t_move rfl rfl rfl (t_len Try.underlying30 rfl rfl rfl rfl (t_cmp rfl rfl rfl rfl rfl (t_samehd (v := .bool false) (by simp) (t_pick_f rfl rfl rfl rfl ?_)))))))))))))))))))))))
    refine t_nil' (hK593 _ _ (c_cond_f rfl (c_skip ?_)))
    exact hK552 0 _ _ ⟨rfl, rfl, rfl, rfl, rfl, rfl, rfl, trivial⟩ (((((((Upd.refl _ _).next u560 (fun _ _ h => h.elim)).next u567 (fun _ _ h => h.elim)).next u572 (fun _ _ h => h.elim)).next u578 (fun _ _ h => h.elim)).next u586 (fun i hi h => by omega)).next u590 (fun _ _ h => h.elim))
   refine c_skip ?_
   exact hK552 0 _ _ ⟨rfl, rfl, rfl, rfl, rfl, rfl, rfl, trivial⟩ (Upd.refl _ _)
  intro zz w553 u554
  have zu554 := u554.size
  refine c_region (t_move rfl rfl rfl (t_ari rfl rfl rfl rfl rfl (by omega) (t_samehd (v := .int .i64 3) rfl (t_assign rfl rfl rfl (t_nil' (hK548 _ _ (WR.weak [(5, .pointer (some ⟨b5, 0, none⟩)), (6, .slice al l.length cl), (9, .pointer (some ⟨b9, 0, none⟩)), (14, .int .i64 len), (15, .int .i64 (mxF (srtS (l.map lngS)) f (srtS (l.map lngS)).length)), (16, .int .i64 t), (27, .int .i64 3)] ⟨rfl, rfl, rfl, rfl, rfl, rfl, rfl, trivial⟩ (r_round fun K595 hK595 => (c_seq fun K596 hK596 => (c_seq fun K597 hK597 => (c_region (t_move rfl rfl rfl (t_cmp rfl rfl rfl rfl rfl (t_samehd (v := .bool false) rfl (t_nil' (hK597 _ _ (c_cond_f rfl (c_exit (hK452 _ _ (c_cut (γ := Nat) (fun zz => [(5, .pointer (some ⟨b5, 0, none⟩)), (6, .slice al l.length cl), (14, .int .i64 len), (16, .int .i64 t)]) (fun zz w => Upd (fun _ => False) w553 w) (fun K599 hK599 => ?_) ?_))))))))))))))))))))
  ·
   refine c_seq fun K602 hK602 => (c_region (t_move rfl rfl rfl (t_ari rfl rfl rfl rfl rfl (by omega) (t_move rfl rfl rfl (t_ari rfl rfl rfl rfl rfl (by omega) (t_cmp rfl rfl rfl rfl rfl (t_nil' (hK602 _ _ (c_condp rfl (fun g210 => ?_) (fun g210 => ?_))))))))))
   ·
    refine c_seq fun K603 hK603 => (c_drawnM follows (fun _ => False) (.look 0 (.look 1 (.look 3 (.look 4 (.look 5 (.act 2 (.act 6 (.look 7 (.look 8 (.look 9 (.look 10 (.look 11 .done))))) .stop) .stop)))))) (by kernel_rfl) fun w604 u605 => ?_)
    have zu605 := u605.size
    have B607 := (((((((((((((((((hb5.kx u351).kx u358).kx u363).kx u369).kx u376).kx u381).kx u403).kx u418).kx u425).kx u430).kx u436).keep u444 (by omega)).kx u448).kx u460).kx u507).kx u554).kx u605)
    refine y_loadN (vs := [.int .i64 ((smR u).rest), .int .i64 ((smR u).span), .int .i64 ((smR u).work), .int .i64 ((smR u).week), .int .i64 ((smR u).ww)]) Try.isAgg28 Try.sizeOf28 rfl rfl rfl (B607.at.sub 0 5) rfl (fun h => h) (y_move rfl rfl rfl (y_move rfl rfl rfl (y_ari rfl rfl rfl rfl rfl (by omega) (y_move rfl rfl rfl (s_do ?_)))))
    have D609 := (((((((((D422.keep u425 (fun _ h => h)).keep u430 (fun _ h => h)).keep u436 (fun _ h => h)).keep u444 (fun hb => show ¬ ((gl = gY421 ∧ w417.heap.size ≤ gl)) by first | omega | assumption)).keep u448 (fun _ h => h)).keep u460 (fun _ h => h)).keep u507 (fun _ h => h)).keep u554 (fun _ h => h)).keep u605 (fun _ h => h))
    refine t_call own11 rfl rfl rfl rfl (duties_c l al gl 0 cl _ (D609.sl (fun _ => rfl)) (by omega) (by omega)) (fun v610 w611 r613 => ?_)
    obtain ⟨⟨aoY608, gY608, cY608, rfl, haY608⟩, u612⟩ := r613
    have zu612 := u612.size
    have lt_gY608 := haY608.lt
    refine s_next ((Upd.refl _ _).nx u612) (s_do (t_call own14 rfl rfl rfl rfl ((Next_v aoY608 gY608 0 cY608 (t + 1) len _ (haY608.sl (fun _ => rfl)) (chk_of hr (by omega) hod) (by omega) hlen (by omega)).mono fun v w9 h9 => (h9.resolve_left fun h8 => h8.2.1 hB)) (fun v615 w616 r618 => ?_)))
    rcases r618 with ⟨t2, rfl, _, ⟨hMt2, _⟩, u617⟩ | ⟨rfl, _, _, u617⟩
    ·
     have zu617 := u617.size
     have hMf2 := mxF_ge (l := (srtS (l.map lngS))) (f := t + 1) _ (Nat.le_refl _)
     refine s_next ((Upd.refl _ _).nx u617) (y_move rfl rfl rfl (y_extract rfl rfl rfl rfl (y_extract rfl rfl rfl rfl (y_assign rfl rfl rfl (y_assign rfl rfl rfl (s_nil (hK603 _ _ (c_seq fun K620 hK620 => (c_region (t_move rfl rfl rfl (t_cmp rfl rfl rfl rfl rfl (t_samehd (v := .bool true) rfl (t_move rfl rfl rfl (t_move rfl rfl rfl (t_move rfl rfl rfl (t_cmp rfl rfl rfl rfl rfl (t_same 226 (v := .bool false) rfl (congrArg Value.bool (decide_eq_false (by omega))) (t_pick_t rfl rfl rfl rfl (t_move rfl rfl rfl (t_move rfl rfl rfl (t_cmp rfl rfl rfl rfl rfl (t_samehd (v := .bool false) rfl (t_move rfl rfl rfl ?_)))))))))))))))))))))))
     refine t_skip rfl rfl rfl (t_skip rfl rfl rfl (t_pick_f rfl rfl rfl rfl (t_pick_f rfl rfl rfl rfl (t_nil' (hK620 _ _ (c_cond_f rfl (c_skip ?_)))))))
     exact hK599 0 _ _ ⟨rfl, rfl, rfl, rfl, trivial⟩ ((((Upd.refl _ _).next u605 (fun _ _ h => h.elim)).next u612 (fun _ _ h => h.elim)).next u617 (fun _ _ h => h.elim))
    have zu617 := u617.size
    refine s_next ((Upd.refl _ _).nx u617) (y_move rfl rfl rfl (y_extract rfl rfl rfl rfl (y_extract rfl rfl rfl rfl (y_assign rfl rfl rfl (y_assign rfl rfl rfl (s_nil (hK603 _ _ (c_seq fun K622 hK622 => (c_region (t_move rfl rfl rfl (t_cmp rfl rfl rfl rfl rfl (t_samehd (v := .bool false) rfl (t_move rfl rfl rfl (t_skip rfl rfl rfl (t_skip rfl rfl rfl (t_skip rfl rfl rfl (t_pick_f rfl rfl rfl rfl (t_move rfl rfl rfl (t_move rfl rfl rfl (t_cmp rfl rfl rfl rfl rfl (t_samehd (v := .bool true) rfl (t_move rfl rfl rfl (t_move rfl rfl rfl ?_)))))))))))))))))))))))
    refine t_cmp rfl rfl rfl rfl rfl (t_samehd (v := .bool false) rfl (t_pick_t rfl rfl rfl rfl (t_pick_f rfl rfl rfl rfl (t_nil' (hK622 _ _ (c_cond_f rfl (c_skip ?_)))))))
    exact hK599 0 _ _ ⟨rfl, rfl, rfl, rfl, trivial⟩ ((((Upd.refl _ _).next u605 (fun _ _ h => h.elim)).next u612 (fun _ _ h => h.elim)).next u617 (fun _ _ h => h.elim))
   refine c_skip ?_
   exact hK599 0 _ _ ⟨rfl, rfl, rfl, rfl, trivial⟩ (Upd.refl _ _)
  intro zz w600 u601
  have zu601 := u601.size
  refine c_seq fun K624 hK624 => (c_drawnM follows (fun _ => False) (.look 0 (.look 1 (.look 3 (.look 4 (.look 5 (.look 6 (.act 2 (.act 7 (.act 8 (.act 9 (.act 10 (.look 11 (.look 12 (.look 13 (.look 14 (.look 15 .done))))) .stop) .stop) .stop) .stop) .stop))))))) (by kernel_rfl) fun w625 u626 => ?_)
  have zu626 := u626.size
  have B628 := ((((((((((((((((((hb5.kx u351).kx u358).kx u363).kx u369).kx u376).kx u381).kx u403).kx u418).kx u425).kx u430).kx u436).keep u444 (by omega)).kx u448).kx u460).kx u507).kx u554).kx u601).kx u626)
  refine y_loadN (vs := [.int .i64 ((smR u).rest), .int .i64 ((smR u).span), .int .i64 ((smR u).work), .int .i64 ((smR u).week), .int .i64 ((smR u).ww)]) Try.isAgg28 Try.sizeOf28 rfl rfl rfl (B628.at.sub 0 5) rfl (fun h => h) (y_move rfl rfl rfl (y_move rfl rfl rfl (y_move rfl rfl rfl (y_move rfl rfl rfl (y_ari rfl rfl rfl rfl rfl (by omega) (s_do ?_))))))
  have D630 := ((((((((((D422.keep u425 (fun _ h => h)).keep u430 (fun _ h => h)).keep u436 (fun _ h => h)).keep u444 (fun hb => show ¬ ((gl = gY421 ∧ w417.heap.size ≤ gl)) by first | omega | assumption)).keep u448 (fun _ h => h)).keep u460 (fun _ h => h)).keep u507 (fun _ h => h)).keep u554 (fun _ h => h)).keep u601 (fun _ h => h)).keep u626 (fun _ h => h))
  refine t_call own11 rfl rfl rfl rfl (duties_c l al gl 0 cl _ (D630.sl (fun _ => rfl)) (by omega) (by omega)) (fun v631 w632 r634 => ?_)
  obtain ⟨⟨aoY629, gY629, cY629, rfl, haY629⟩, u633⟩ := r634
  have zu633 := u633.size
  have lt_gY629 := haY629.lt
  refine s_next ((Upd.refl _ _).nx u633) (s_do (t_call own15 rfl rfl rfl rfl (duty_c t (t + len) _) (fun v636 w637 r639 => ?_)))
  obtain ⟨rfl, u638⟩ := r639
  have zu638 := u638.size
  refine s_next ((Upd.refl _ _).nx u638) (s_do (t_bslice (ps := [(0, .agg #[.int .i64 t, .int .i64 t, .int .i64 (t + len), .int .i64 (t + len)])]) (cs := [.int .i64 t, .int .i64 t, .int .i64 (t + len), .int .i64 (t + len)]) (e := 40) rfl rfl ⟨rfl, rfl⟩ (fun w => by kernel_rfl) (fun bk641 w642 ebk641 sbk641 B643 u644 => ?_)))
  have zu644 := u644.size
  refine s_next ((Upd.refl _ _).nx u644) (s_do ?_)
  have D646 := ((haY629.keep u638 (fun _ h => h)).keep u644 (fun _ h => h))
  refine t_append (z := .agg #[.int .i64 0, .int .i64 0, .int .i64 0, .int .i64 0]) (bytes := 32) (k := 4) (base := w625.heap.size) (⟨t, t, (t + len), (t + len)⟩ : Dty) Try.underlying30 (by kernel_rfl) rfl (by decide) (fun _ => rfl) (by intro x; simp [encDty, Value.oneCell']) rfl rfl rfl rfl D646 B643 (by omega) (by omega) (by decide) (fun ao647 gb648 cp649 w650 A651 u652 gegb648 lngb648 => ?_)
  have zu652 := u652.size
  have lt_gb648 := A651.lt
  refine s_next ((Upd.refl _ _).next u652 (fun i hi (h : (i = gY629 ∧ w625.heap.size ≤ i)) => show w625.heap.size ≤ i ∨ (False) by first | omega | exact .inr h)) (s_do (t_call own16 rfl rfl rfl rfl (Shifts_v ao647 gb648 0 cp649 _ (A651.sl (fun _ => rfl)) (chk_of hr (by rw [List.length_append, List.length_singleton]; omega) (ok_snoc hod (okD2 (by omega) (by omega) (by omega)))) (by omega)) (fun v654 w655 r657 => ?_)))
  obtain ⟨⟨aoS, gS, cS, sh, rfl, hSh, hsh⟩, u656⟩ := r657
  have zu656 := u656.size
  obtain ⟨hs1, hs2, hs3⟩ := shs_end (f := f) (by omega) hod hMt hsh
  have hsl := sh_few hsh
  rw [List.length_append, List.length_singleton] at hsl
  refine s_next ((Upd.refl _ _).nx u656) (y_move rfl rfl rfl (y_extract rfl rfl rfl rfl (y_extract rfl rfl rfl rfl (y_assign rfl rfl rfl (y_assign rfl rfl rfl (s_nil (hK624 _ _ (c_seq fun K659 hK659 => (c_seq fun K660 hK660 => (c_region (t_move rfl rfl rfl (t_cmp rfl rfl rfl rfl rfl (t_samehd (v := .bool false) rfl (t_move rfl rfl rfl (t_move rfl rfl rfl (t_len Try.underlying52 rfl rfl rfl rfl (t_cmp rfl rfl rfl rfl rfl (t_same 255 (v := .bool false) rfl (congrArg Value.bool (decide_eq_false (by omega))) (t_pick_f rfl rfl rfl rfl (t_move rfl rfl rfl (t_move rfl rfl rfl (t_move rfl rfl rfl (t_len Try.underlying52 rfl rfl rfl rfl ?_)))))))))))))))))))))))
  refine t_ari rfl rfl rfl rfl rfl (by omega) ?_
  have i661 : (sh.length - 1) < sh.length := (by omega)
  refine t_index (j := (sh.length - 1)) Try.underlying52 Try.sizeOf56 rfl rfl rfl rfl (hSh.addr (by omega)) (by omega) i661 (t_field Try.underlying56 rfl Try.sizeOf3 (0 + (sh.length - 1) * 3 + 1) rfl rfl rfl rfl (t_load Try.isAgg3 rfl rfl rfl ((hSh.at_ (sh.length - 1) (by omega)) 1 _ rfl) (t_move rfl rfl rfl (t_move rfl rfl rfl (t_ari rfl rfl rfl rfl rfl (by omega) (t_cmp rfl rfl rfl rfl rfl (t_same 268 (v := .bool false) rfl (congrArg Value.bool (decide_eq_false (fun h => h hs2))) (t_pick_f rfl rfl rfl rfl (t_move rfl rfl rfl (t_move rfl rfl rfl (t_move rfl rfl rfl (t_len Try.underlying52 rfl rfl rfl rfl (t_ari rfl rfl rfl rfl rfl (by omega) ?_)))))))))))))
  have i662 : (sh.length - 1) < sh.length := (by omega)
  refine t_index (j := (sh.length - 1)) Try.underlying52 Try.sizeOf56 rfl rfl rfl rfl (hSh.addr (by omega)) (by omega) i662 (t_field Try.underlying56 rfl Try.sizeOf3 (0 + (sh.length - 1) * 3 + 2) rfl rfl rfl rfl (t_load Try.isAgg3 rfl rfl rfl ((hSh.at_ (sh.length - 1) (by omega)) 2 _ rfl) (t_move rfl rfl rfl (t_cmp rfl rfl rfl rfl rfl (t_same 279 (v := .bool false) rfl (congrArg Value.bool (decide_eq_false (by omega))) (t_pick_f rfl rfl rfl rfl (t_nil' (hK660 _ _ (c_cond_f rfl (c_skip (hK659 _ _ (c_seq fun K663 hK663 => (c_region (t_call own13 rfl rfl rfl rfl (known_c _) (fun v664 w665 r667 => ?_)))))))))))))))
  obtain ⟨rfl, u666⟩ := r667
  have zu666 := u666.size
  refine t_assign rfl rfl rfl (t_nil' (hK663 _ _ (c_ret (f_ret1 (v := .bool true) Try.results4 rfl ?_))))
  exact ⟨rfl, (((((((((((((((((((E378.nx u381).nx u403).nx u418).nx u425).nx u430).nx u436).next u444 (fun i hi h => by omega)).nx u448).nx u460).nx u507).nx u554).nx u601).nx u626).nx u633).nx u638).nx u644).next u652 (fun i hi h => by omega)).nx u656).nx u666)⟩
 have zu381 := u381.size
 refine s_next ((Upd.refl _ _).nx u381) (y_move rfl rfl rfl (y_extract rfl rfl rfl rfl (y_extract rfl rfl rfl rfl (y_assign rfl rfl rfl (y_assign rfl rfl rfl (s_nil (hK367 _ _ (c_seq fun K670 hK670 => (c_seq fun K671 hK671 => (c_region (t_move rfl rfl rfl (t_cmp rfl rfl rfl rfl rfl (t_samehd (v := .bool false) rfl (t_nil' (hK671 _ _ (c_cond_f rfl (c_skip (hK670 _ _ (c_seq fun K672 hK672 => (c_seq fun K673 hK673 => (c_region (t_move rfl rfl rfl (t_cmp rfl rfl rfl rfl rfl ?_)))))))))))))))))))))))
 refine t_nil' (hK673 _ _ (c_condp rfl (fun g74 => ?_) (fun g74 => ?_)))
 ·
  exact absurd (hat1.2 hB) (by omega)
 refine c_skip (hK672 _ _ (c_seq fun K674 hK674 => (c_seq fun K675 hK675 => (c_region (t_assign rfl rfl rfl (t_nil' (hK675 _ _ (c_block (c_loop (γ := Nat) (fun k => [(5, .pointer (some ⟨b5, 0, none⟩)), (6, .slice al l.length cl), (9, .pointer (some ⟨b9, 0, none⟩)), (14, .int .i64 len), (15, .int .i64 (mxD l f k)), (16, .int .i64 0), (17, .int .i64 7), (18, .int .i64 (k : Int))]) (fun k w => Upd (fun _ => False) w380 w ∧ (k ≤ l.length)) (fun k => l.length - k) 0 ⟨rfl, rfl, rfl, rfl, rfl, rfl, rfl, rfl, trivial⟩ ⟨Upd.refl _ _, (Nat.zero_le _)⟩ ?_)))))))))
 intro k w677 hW K676 hK676
 obtain ⟨u678, I679⟩ := hW
 have zu678 := u678.size
 have hk := I679; clear I679
 refine c_seq fun K681 hK681 => (c_seq fun K682 hK682 => (c_region (t_move rfl rfl rfl (t_move rfl rfl rfl (t_len Try.underlying30 rfl rfl rfl rfl (t_cmp rfl rfl rfl rfl rfl (t_nil' (hK682 _ _ (c_condp rfl (fun g87 => ?_) (fun g87 => ?_))))))))))
 ·
  refine c_skip (hK681 _ _ (c_seq fun K683 hK683 => (c_block (c_region (t_move rfl rfl rfl (t_move rfl rfl rfl (t_move rfl rfl rfl ?_)))))))
  have D684 := (((D373.keep u376 (fun _ h => h)).keep u381 (fun _ h => h)).keep u678 (fun _ h => h))
  have i685 : k < l.length := (by omega)
  refine t_index (j := k) Try.underlying30 Try.sizeOf40 rfl rfl rfl rfl ((D684.sl (fun _ => rfl)).addr (by omega)) rfl i685 (t_field Try.underlying40 rfl Try.sizeOf38 (0 + k * 4 + 2) rfl rfl rfl rfl (t_field Try.underlying38 rfl Try.sizeOf3 (0 + k * 4 + 2 + 1) rfl rfl rfl rfl (t_load Try.isAgg3 rfl rfl rfl (((D684.sl (fun _ => rfl)).at_ k (by omega)) 3 _ rfl) (t_max rfl rfl rfl rfl (t_assign rfl rfl rfl (t_nil' (hK683 _ _ (c_region (t_move rfl rfl rfl (t_ari rfl rfl rfl rfl rfl (by omega) (t_assign rfl rfl rfl (t_nil' ?_))))))))))))
  exact hK676 (k + 1) _ _ (by omega) ⟨rfl, rfl, rfl, rfl, (congrArg (fun z => some (Value.int .i64 z)) (mxD_succ (by omega)).symm), rfl, rfl, rfl, trivial⟩ ⟨u678, (by omega)⟩
 have hke : k = l.length := by omega
 have hmr := mxF_rng hf (lngs_ok hod) (srtS (l.map lngS)).length (Nat.le_refl _)
 have hME : mxD l f k = (mxF (srtS (l.map lngS)) f (srtS (l.map lngS)).length) := by rw [hke, mxD_eq]
 refine c_same 15 (v := .int .i64 (mxF (srtS (l.map lngS)) f (srtS (l.map lngS)).length)) rfl (congrArg (Value.int .i64) hME) (c_exit (hK674 _ _ (c_seq fun K686 hK686 => (c_seq fun K687 hK687 => (c_region (t_move rfl rfl rfl (t_cmp rfl rfl rfl rfl rfl (t_samehd (v := .bool true) rfl (t_nil' (hK687 _ _ (c_cond_t rfl (c_seq fun K688 hK688 => (c_drawnM follows (fun _ => False) (.look 0 (.look 1 (.look 3 (.look 4 (.act 2 (.act 5 (.act 6 (.act 7 (.act 8 (.look 9 (.look 10 (.look 11 (.look 12 (.look 13 (.look 14 (.look 15 (.look 16 (.look 17 .done))))))))) .stop) .stop) .stop) .stop) .stop))))) (by kernel_rfl) fun w689 u690 => ?_)))))))))))))
 have zu690 := u690.size
 have B692 := ((((((((hb5.kx u351).kx u358).kx u363).kx u369).kx u376).kx u381).kx u678).kx u690)
 refine y_loadN (vs := [.int .i64 ((smR u).rest), .int .i64 ((smR u).span), .int .i64 ((smR u).work), .int .i64 ((smR u).week), .int .i64 ((smR u).ww)]) Try.isAgg28 Try.sizeOf28 rfl rfl rfl (B692.at.sub 0 5) rfl (fun h => h) (y_move rfl rfl rfl (y_move rfl rfl rfl (y_ari rfl rfl rfl rfl rfl (by omega) (s_do ?_))))
 have D694 := ((((D373.keep u376 (fun _ h => h)).keep u381 (fun _ h => h)).keep u678 (fun _ h => h)).keep u690 (fun _ h => h))
 refine t_call own11 rfl rfl rfl rfl (duties_c l al gl 0 cl _ (D694.sl (fun _ => rfl)) (by omega) (by omega)) (fun v695 w696 r698 => ?_)
 obtain ⟨⟨aoY693, gY693, cY693, rfl, haY693⟩, u697⟩ := r698
 have zu697 := u697.size
 have lt_gY693 := haY693.lt
 refine s_next ((Upd.refl _ _).nx u697) (s_do (t_call own15 rfl rfl rfl rfl (duty_c (20160 - len) 20160 _) (fun v700 w701 r703 => ?_)))
 obtain ⟨rfl, u702⟩ := r703
 have zu702 := u702.size
 refine s_next ((Upd.refl _ _).nx u702) (s_do (t_bslice (ps := [(0, .agg #[.int .i64 (20160 - len), .int .i64 (20160 - len), .int .i64 20160, .int .i64 20160])]) (cs := [.int .i64 (20160 - len), .int .i64 (20160 - len), .int .i64 20160, .int .i64 20160]) (e := 40) rfl rfl ⟨rfl, rfl⟩ (fun w => by kernel_rfl) (fun bk705 w706 ebk705 sbk705 B707 u708 => ?_)))
 have zu708 := u708.size
 refine s_next ((Upd.refl _ _).nx u708) (s_do ?_)
 have D710 := ((haY693.keep u702 (fun _ h => h)).keep u708 (fun _ h => h))
 refine t_append (z := .agg #[.int .i64 0, .int .i64 0, .int .i64 0, .int .i64 0]) (bytes := 32) (k := 4) (base := w689.heap.size) (⟨(20160 - len), (20160 - len), 20160, 20160⟩ : Dty) Try.underlying30 (by kernel_rfl) rfl (by decide) (fun _ => rfl) (by intro x; simp [encDty, Value.oneCell']) rfl rfl rfl rfl D710 B707 (by omega) (by omega) (by decide) (fun ao711 gb712 cp713 w714 A715 u716 gegb712 lngb712 => ?_)
 have zu716 := u716.size
 have lt_gb712 := A715.lt
 refine s_next ((Upd.refl _ _).next u716 (fun i hi (h : (i = gY693 ∧ w689.heap.size ≤ i)) => show w689.heap.size ≤ i ∨ (False) by first | omega | exact .inr h)) (s_do (t_call own10 rfl rfl rfl rfl (Rested_v ao711 gb712 0 cp713 _ (A715.sl (fun _ => rfl)) (chk_of hr (by rw [List.length_append, List.length_singleton]; omega) (ok_snoc hod (okD2 (by omega) (by omega) (by omega)))) (by omega)) (fun v718 w719 r721 => ?_)))
 obtain ⟨⟨at2, rule2, rfl, hR2⟩, u720⟩ := r721
 have zu720 := u720.size
 have E722 := (((((((E378.nx u381).nx u678).nx u690).nx u697).nx u702).nx u708).next u716 (fun i hi h => by omega)).nx u720
 refine s_next ((Upd.refl _ _).nx u720) (y_move rfl rfl rfl (y_extract rfl rfl rfl rfl (y_extract rfl rfl rfl rfl (y_extract rfl rfl rfl rfl (y_extract rfl rfl rfl rfl (y_assign rfl rfl rfl (y_assign rfl rfl rfl (y_assign rfl rfl rfl (y_assign rfl rfl rfl (s_nil (hK688 _ _ (c_seq fun K723 hK723 => (c_region (t_move rfl rfl rfl (t_cmp rfl rfl rfl rfl rfl (t_samehd (v := .bool true) rfl (t_move rfl rfl rfl (t_move rfl rfl rfl (t_cmp rfl rfl rfl rfl rfl (t_samehd (v := .bool true) rfl (t_pick_t rfl rfl rfl rfl (t_move rfl rfl rfl (t_move rfl rfl rfl ?_)))))))))))))))))))))))
 refine t_move rfl rfl rfl (t_ari rfl rfl rfl rfl rfl (by omega) (t_cmp rfl rfl rfl rfl rfl (t_move rfl rfl rfl (t_splitp 125 rfl (fun g125 => ?_) (fun g125 => ?_)))))
 ·
  refine t_skip rfl rfl rfl (t_skip rfl rfl rfl (t_skip rfl rfl rfl (t_skip rfl rfl rfl (t_skip rfl rfl rfl (t_skip rfl rfl rfl (t_pick_t rfl rfl rfl rfl (t_pick_t rfl rfl rfl rfl (t_move rfl rfl rfl (t_call own13 rfl rfl rfl rfl (known_c _) (fun v724 w725 r727 => ?_))))))))))
  obtain ⟨rfl, u726⟩ := r727
  have zu726 := u726.size
  refine t_pick_t rfl rfl rfl rfl (t_assign rfl rfl rfl (t_nil' (hK723 _ _ (c_ret (f_ret1 (v := .bool true) Try.results4 rfl ?_)))))
  exact ⟨rfl, (E722.nx u726)⟩
 have hnn := hno (20160 - len) (by omega) (by omega)
 rw [show 20160 - len + len = 20160 by omega] at hnn
 have hrl := ((rest_new hr hod (okD2 (by omega) (by omega) (by omega)) hR2 hB).2 hnn).2
 refine t_move rfl rfl rfl (t_cmp rfl rfl rfl rfl rfl (t_samehd (v := .bool true) rfl (t_move rfl rfl rfl (t_move rfl rfl rfl (t_cmp rfl rfl rfl rfl rfl (t_same 130 (v := .bool true) rfl (congrArg Value.bool (decide_eq_true hrl)) (t_pick_t rfl rfl rfl rfl (t_pick_f rfl rfl rfl rfl (t_pick_t rfl rfl rfl rfl (t_move rfl rfl rfl (t_call own13 rfl rfl rfl rfl (known_c _) (fun v729 w730 r732 => ?_))))))))))))
 obtain ⟨rfl, u731⟩ := r732
 have zu731 := u731.size
 refine t_pick_t rfl rfl rfl rfl (t_assign rfl rfl rfl (t_nil' (hK723 _ _ (c_ret (f_ret1 (v := .bool true) Try.results4 rfl ?_)))))
 exact ⟨rfl, (E722.nx u731)⟩

end Go.Proofs.Ytagmodjadmecdaa
