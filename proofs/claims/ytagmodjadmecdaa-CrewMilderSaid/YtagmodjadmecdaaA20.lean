/-
  Less is safe. Conditions: none.
-/
import Derived.Test.YtagmodjadmecdaaA19
import Derived.Test.YtagmodjadmecdaaA17
namespace Go.Proofs.Ytagmodjadmecdaa
open Go Go.RowKit

/-- The rest of a slice. -/
theorem Sl.from_ {α : Type} [Inhabited α] {enc : α → List Value} {k : Nat} {w : World} {ao : Option Addr} {b o : Nat} {xs : List α} (h : Sl enc k w ao b o xs) (cap l : Nat) (hc : xs.length ≤ cap) : Sl enc k w (subAddr ao cap l k) b (o + l * k) (xs.drop l) := by
  have h9 := h.sub cap l xs.length hc
  rwa [List.take_of_length_le (by rw [List.length_drop]; omega)] at h9
def wrkD (l : List Dty) (k : Nat) : Int := sumI2 ((l.take k).map fun d => d.eh - d.bl)
theorem wrkD_succ {l : List Dty} {k : Nat} (hk : k < l.length) : wrkD l (k + 1) = wrkD l k + ((nth l k).eh - (nth l k).bl) := by unfold wrkD; rw [take_nth hk, List.map_append]; exact sumI2_snoc _ _
theorem wrkD_rng {l : List Dty} (h : ∀ d ∈ l, okDty d = true) : ∀ {k : Nat}, k ≤ l.length → 0 ≤ wrkD l k ∧ wrkD l k ≤ 20160 * (k : Int)
  | 0, _ => ⟨Int.le_refl _, Int.le_refl _⟩
  | k + 1, hk => by
    have h1 := wrkD_rng h (k := k) (by omega)
    have h2 := lng_ok (h _ (nth_mem (show k < l.length by omega)))
    unfold OkSp lngS at h2; simp only [] at h2
    rw [wrkD_succ (by omega)]; omega
def shW (l : List Shf) (k : Nat) : Int := sumI2 ((l.take k).map fun x => x.w)
theorem shW_succ {l : List Shf} {k : Nat} (hk : k < l.length) : shW l (k + 1) = shW l k + (nth l k).w := by unfold shW; rw [take_nth hk, List.map_append]; exact sumI2_snoc _ _
/-- What shifts are like. -/
structure ShsOk (r : Rul) (l : List Sp) (sh : List Shf) : Prop where
  be : ∀ i, i < sh.length → (nth sh i).b ≤ (nth sh i).e
  gap : ∀ i, i + 1 < sh.length → (nth sh i).e + r.rest ≤ (nth sh (i + 1)).b
  ww : ∀ i, i < sh.length → 0 ≤ (nth sh i).w
  sum : shW sh sh.length = sumI2 (l.map fun s => s.e - s.b)
  nil : sh.length = 0 ↔ l.length = 0
theorem nth_succ {α : Type} [Inhabited α] (x : α) (l : List α) (i : Nat) : nth (x :: l) (i + 1) = nth l i := by simp [nth]
theorem go_ok {r : Rul} (hr : 1 ≤ r.rest) : ∀ (l : List Sp) (x : Shf), (∀ s ∈ l, OkSp s) → x.b ≤ x.e → 0 ≤ x.w → (∀ i, i < (shGo r x l).length → (nth (shGo r x l) i).b ≤ (nth (shGo r x l) i).e) ∧ (∀ i, i + 1 < (shGo r x l).length → (nth (shGo r x l) i).e + r.rest ≤ (nth (shGo r x l) (i + 1)).b) ∧ (∀ i, i < (shGo r x l).length → 0 ≤ (nth (shGo r x l) i).w) ∧
    sumI2 ((shGo r x l).map fun x => x.w) = x.w + sumI2 (l.map fun s => s.e - s.b) ∧ 0 < (shGo r x l).length ∧ (nth (shGo r x l) 0).b = x.b
  | [], x, _, hx, hw => by
    refine ⟨fun i hi => ?_, fun i hi => absurd hi (by simp [shGo]), fun i hi => ?_, by simp [shGo, sumI2], by simp [shGo], rfl⟩
    · have : i = 0 := by simpa [shGo] using hi
      subst this; exact hx
    · have : i = 0 := by simpa [shGo] using hi
      subst this; exact hw
  | s :: l, x, h, hx, hw => by
    have hs := h s (by simp); unfold OkSp at hs
    rw [shGo]
    by_cases hc : s.b < x.e + r.rest
    · rw [if_pos hc]
      obtain ⟨h1, h2, h3, h4, h5, h6⟩ := go_ok hr l ⟨x.b, max x.e s.e, x.w + (s.e - s.b)⟩ (fun y hy => h y (by simp [hy])) (by show x.b ≤ max x.e s.e; omega) (by show 0 ≤ x.w + (s.e - s.b); omega)
      refine ⟨h1, h2, h3, ?_, h5, h6⟩
      rw [h4]; show x.w + (s.e - s.b) + _ = x.w + ((s.e - s.b) + _); omega
    · rw [if_neg hc]
      obtain ⟨h1, h2, h3, h4, h5, h6⟩ := go_ok hr l ⟨s.b, s.e, s.e - s.b⟩ (fun y hy => h y (by simp [hy])) (by show s.b ≤ s.e; omega) (by show 0 ≤ s.e - s.b; omega)
      refine ⟨fun i hi => ?_, fun i hi => ?_, fun i hi => ?_, ?_, by simp, rfl⟩
      · match i, hi with
        | 0, _ => exact hx
        | i + 1, hi => rw [nth_succ]; exact h1 i (by simpa using hi)
      · match i, hi with
        | 0, hi => rw [nth_succ, h6]; show x.e + r.rest ≤ s.b; omega
        | i + 1, hi => rw [nth_succ, nth_succ]; exact h2 i (by simpa using hi)
      · match i, hi with
        | 0, _ => exact hw
        | i + 1, hi => rw [nth_succ]; exact h3 i (by simpa using hi)
      · show x.w + sumI2 ((shGo r ⟨s.b, s.e, s.e - s.b⟩ l).map _) = x.w + ((s.e - s.b) + _)
        rw [h4]
theorem go_rng {r : Rul} : ∀ {l : List Sp} {x : Shf}, (∀ s ∈ l, OkSp s) → 0 ≤ x.b → x.e ≤ 20160 → ∀ y ∈ shGo r x l, 0 ≤ y.b ∧ y.e ≤ 20160
  | [], x, _, h1, h2, y, hy => by rw [List.mem_singleton.1 hy]; exact ⟨h1, h2⟩
  | s :: l, x, h, h1, h2, y, hy => by
    have hs := h s (by simp); unfold OkSp at hs
    rw [shGo] at hy
    split at hy
    · exact go_rng (x := ⟨x.b, max x.e s.e, x.w + (s.e - s.b)⟩) (fun z hz => h z (List.mem_cons_of_mem _ hz)) h1 (by show max x.e s.e ≤ 20160; omega) y hy
    · rcases List.mem_cons.1 hy with e | hy
      · rw [e]; exact ⟨h1, h2⟩
      · exact go_rng (x := ⟨s.b, s.e, s.e - s.b⟩) (fun z hz => h z (List.mem_cons_of_mem _ hz)) hs.1 hs.2.2 y hy
theorem shs_rng {r : Rul} {l : List Sp} (h : ∀ s ∈ l, OkSp s) : ∀ y ∈ shiftsP r l, 0 ≤ y.b ∧ y.e ≤ 20160 := fun y hy => by
  match l, h, hy with
  | s :: l, h, hy =>
    have hs := h s (by simp); unfold OkSp at hs
    exact go_rng (x := ⟨s.b, s.e, s.e - s.b⟩) (fun z hz => h z (List.mem_cons_of_mem _ hz)) hs.1 hs.2.2 y hy
theorem shs_ok {r : Rul} (hr : okRul r = true) {l : List Sp} (h : ∀ s ∈ l, OkSp s) : ShsOk r l (shiftsP r l) := by
  simp only [okRul, decide_eq_true_eq] at hr
  match l, h with
  | [], _ => exact ⟨fun i hi => absurd hi (Nat.not_lt_zero _), fun i hi => absurd hi (Nat.not_lt_zero _), fun i hi => absurd hi (Nat.not_lt_zero _), rfl, Iff.rfl⟩
  | s :: l, h =>
    have hs := h s (by simp); unfold OkSp at hs
    obtain ⟨h1, h2, h3, h4, h5, h6⟩ := go_ok (r := r) (by omega) l ⟨s.b, s.e, s.e - s.b⟩ (fun y hy => h y (by simp [hy])) (by show s.b ≤ s.e; omega) (by show 0 ≤ s.e - s.b; omega)
    exact ⟨h1, h2, h3, by unfold shW; rw [List.take_length]; exact h4, ⟨fun e => absurd (show (shGo r ⟨s.b, s.e, s.e - s.b⟩ l).length = 0 from e) (by omega), fun e => by cases e⟩⟩
theorem shD_ok {r : Rul} (hr : okRul r = true) {l : List Dty} (h : ∀ d ∈ l, okDty d = true) {sh : List Shf} (e : sh = shiftsP r (srtS (l.map lngS))) : ShsOk r (srtS (l.map lngS)) sh ∧ shW sh sh.length = wrkD l l.length ∧ (sh.length = 0 ↔ l.length = 0) ∧ ∀ i, i < sh.length → 0 ≤ (nth sh i).b ∧ (nth sh i).e ≤ 20160 := by
  have h1 := shs_ok hr (lngs_ok h)
  rw [← e] at h1
  refine ⟨h1, ?_, ?_, fun i hi => shs_rng (r := r) (lngs_ok h) _ (by rw [← e]; exact nth_mem hi)⟩
  · rw [h1.sum]
    unfold wrkD
    rw [List.take_length, sumI2_perm ((srt_perm (l.map lngS)).map fun s => s.e - s.b), List.map_map]; rfl
  · have := h1.nil; rw [srt_len, List.length_map] at this; exact this
theorem shW_rng {l : List Shf} (h : ∀ i, i < l.length → 0 ≤ (nth l i).w) : ∀ {k : Nat}, k ≤ l.length → 0 ≤ shW l k ∧ ∀ n, k ≤ n → n ≤ l.length → shW l k ≤ shW l n := by
  have hm : ∀ n k, k ≤ n → n ≤ l.length → shW l k ≤ shW l n := by
    intro n
    induction n with
    | zero => intro k hk _; rw [show k = 0 by omega]; exact Int.le_refl _
    | succ n ih =>
      intro k hk hn
      by_cases e : k = n + 1
      · rw [e]; exact Int.le_refl _
      · have := ih k (by omega) (by omega)
        have := h n (by omega)
        rw [shW_succ (by omega)]; omega
  intro k hk
  exact ⟨by have := hm k 0 (Nat.zero_le _) hk; exact this, fun n h1 h2 => hm n k h1 h2⟩
/-- Milder rules. -/
def mlR (u q : U5) : Rul := ⟨max 1 ((smR u).rest - q.a), (smR u).span + q.b, (smR u).work + q.c, (smR u).week, (smR u).ww + q.d⟩
theorem mlR_ok {u q : U5} (hu : okU5 u) (hq : okU5 q) : okRul (mlR u q) = true := by
  unfold okU5 at hu hq
  unfold okRul; rw [decide_eq_true_eq]; simp only [mlR, smR]; omega
theorem mlR_mild {u q : U5} (hu : okU5 u) (hq : okU5 q) : Mild (smR u) (mlR u q) := by
  unfold okU5 at hu hq
  refine ⟨?_, ?_, ?_, rfl, ?_⟩ <;> simp only [mlR, smR] <;> omega
/-- What milder rules do to what Rested says. -/
theorem rest_mild {r r' : Rul} (hr : okRul r = true) (hr' : okRul r' = true) (hm : Mild r r') {l : List Dty} (hl : ∀ d ∈ l, okDty d = true) {a x a' x' : Int} (h : RestR r l a x) (h' : RestR r' l a' x') : (a < 0 → a' < 0) ∧ (brokP r (srtS (l.map shtS)) = 0 → brokP r' (srtS (l.map shtS)) = 0) ∧ (0 ≤ a' → a < 0 ∨ a ≤ a') := by
  have h1 := rest_at hr hl h
  have h2 := rest_at hr' hl h'
  refine ⟨fun ha => h2.1.2 (brok_mono hr hm (Shr.refl (lngs_ok hl)) (lngs_ok hl) (h1.1.1 ha)), fun hb => brok_mono hr hm (Shr.refl (shts_ok hl)) (shts_ok hl) hb, fun ha => ?_⟩
  by_cases hc : a < 0
  · exact .inl hc
  · rcases h2.2.1 with e | ⟨h3, h4⟩
    · omega
    · rcases Nat.lt_or_ge a.toNat (a'.toNat + 1) with q | q
      · exact .inr (by omega)
      · -- the first a' + 1 duties keep r, so they keep r'
        have h5 := (rest_first hr hl h (a'.toNat + 1) (by omega)).2 (.inr (by omega))
        have h6 : brkK r' l (a'.toNat + 1) = 0 := by
          have hk : ∀ x ∈ srtS ((l.take (a'.toNat + 1)).map lngS), OkSp x := lngs_ok fun d hd => hl d (List.mem_of_mem_take hd)
          exact brok_mono hr hm (Shr.refl hk) hk h5
        have h7 := (rest_first hr' hl h' (a'.toNat + 1) (by omega)).1 h6
        omega
/-- Duties without one. -/
def fewD (l : List Dty) (j : Nat) : List Dty := l.take j ++ l.drop (j + 1)
theorem fewD_perm {l : List Dty} {j : Nat} (hj : j < l.length) : l.Perm (nth l j :: fewD l j) := by
  have e : l = l.take j ++ nth l j :: l.drop (j + 1) := by rw [← drop_nth hj, List.take_append_drop]
  conv => lhs; rw [e]
  exact List.perm_middle
theorem fewD_ok {l : List Dty} {j : Nat} (hl : ∀ d ∈ l, okDty d = true) : ∀ d ∈ fewD l j, okDty d = true := fun d hd => by
  rcases List.mem_append.1 hd with h | h
  · exact hl d (List.mem_of_mem_take h)
  · exact hl d (List.mem_of_mem_drop h)
theorem fewD_len {l : List Dty} {j : Nat} : (fewD l j).length ≤ l.length := by unfold fewD; rw [List.length_append, List.length_take, List.length_drop]; omega
theorem rest_fewer {r : Rul} (hr : okRul r = true) {l : List Dty} (hl : ∀ d ∈ l, okDty d = true) {j : Nat} (hj : j < l.length) {a x a' x' : Int} (h : RestR r l a x) (h' : RestR r (fewD l j) a' x') : (a < 0 → a' < 0) ∧ (brokP r (srtS (l.map shtS)) = 0 → brokP r (srtS ((fewD l j).map shtS)) = 0) := by
  have h1 := rest_at hr hl h
  have h2 := rest_at hr (fewD_ok hl) h'
  refine ⟨fun ha => h2.1.2 (brok_less hr ((fewD_perm hj).map lngS) (fun x hx => ?_) (h1.1.1 ha)), fun hb => brok_less hr ((fewD_perm hj).map shtS) (fun x hx => ?_) hb⟩
  · obtain ⟨d, hd, rfl⟩ := List.mem_map.1 hx; exact lng_ok (hl d hd)
  · obtain ⟨d, hd, rfl⟩ := List.mem_map.1 hx; exact sht_ok (hl d hd)

theorem own5 : Own Try.prog 5 := ⟨Try.f5, Try.func5, by kernel_rfl, by kernel_rfl⟩

set_option maxHeartbeats 2000000 in
theorem CrewMilder_c (u : U5) (xs : List U4) (ao : Option Addr) (b o cap : Nat) (p : Int) (q : U5) (w0 : World) (hu : okU5 u) (hx : Sl encU4 4 w0 ao b o xs) (hxl : xs.length ≤ 9223372036854775807) (hxs : ∀ x ∈ xs, okU4 x) (hp : 0 ≤ p ∧ p ≤ 255) (hq : okU5 q) :
    CallsV Try.prog 5 [.agg #[.int .u8 u.a, .int .u8 u.b, .int .u8 u.c, .int .u8 u.d, .int .u8 u.e, .slice ao xs.length cap], .int .u8 p, .agg #[.int .u8 q.a, .int .u8 q.b, .int .u8 q.c, .int .u8 q.d, .int .u8 q.e]] w0 (fun v w' => v = .bool true ∧ Ext w0 w') := by
 have hr := smR_ok hu
 have hrm := mlR_ok hu hq
 have hq9 := hq
 unfold okU5 at hq9
 have hrr := hr
 simp only [okRul, decide_eq_true_eq] at hrr
 refine f_enter (N := 238) Try.func5 rfl rfl rfl (c_seq fun K1 hK1 => (c_region (t_box (cs := [.int .u8 u.a, .int .u8 u.b, .int .u8 u.c, .int .u8 u.d, .int .u8 u.e, .slice ao xs.length cap]) rfl rfl rfl rfl (fun bk2 w3 ebk2 sbk2 B4 u5 => ?_))))
 have zu5 := u5.size
 refine t_box (cs := [.int .u8 q.a, .int .u8 q.b, .int .u8 q.c, .int .u8 q.d, .int .u8 q.e]) rfl rfl rfl rfl (fun bk7 w8 ebk7 sbk7 B9 u10 => ?_)
 have zu10 := u10.size
 have E11 := ((Upd.refl (fun _ => False) w0).nx u5).nx u10
 refine t_assign rfl rfl rfl (t_nil' (hK1 _ _ (c_cut (γ := Nat × Nat × Option Addr × Nat × Nat × List Dty) (fun gg => [(1, .int .u8 p), (5, .pointer (some ⟨bk7, 0, none⟩)), (7, .pointer (some ⟨gg.2.1, 0, none⟩)), (8, .slice gg.2.2.1 gg.2.2.2.2.2.length gg.2.2.2.2.1)]) (fun gg w => Upd (fun _ => False) w8 w ∧ (Blk w gg.2.1 28 [.int .i64 ((smR u).rest), .int .i64 ((smR u).span), .int .i64 ((smR u).work), .int .i64 ((smR u).week), .int .i64 ((smR u).ww)]) ∧ (Acc encDty 4 40 gg.1 w gg.2.2.1 gg.2.2.2.1 gg.2.2.2.2.1 gg.2.2.2.2.2) ∧ (gg.2.2.2.2.2 = dsOf xs 10) ∧ (w8.heap.size ≤ gg.2.1 ∧ w8.heap.size ≤ gg.1)) (fun K13 hK13 => ?_) ?_)))
 ·
  refine c_drawnM follows (fun _ => False) (.look 0 (.look 2 (.act 1 (.act 3 (.act 4 (.act 5 (.look 6 .done) .stop) .stop) (.act 4 (.act 3 (.act 5 (.look 6 .done) .stop) .stop) .stop)) (.act 4 (.act 1 (.act 3 (.act 5 (.look 6 .done) .stop) .stop) .stop) .stop)))) (by kernel_rfl) fun w16 u17 => ?_
  have zu17 := u17.size
  have E18 := E11.nx u17
  have B19 := ((B4.kx u10).kx u17)
  refine y_loadN (vs := [.int .u8 u.a, .int .u8 u.b, .int .u8 u.c, .int .u8 u.d, .int .u8 u.e, .slice ao xs.length cap]) Try.isAgg25 Try.sizeOf25 rfl rfl rfl (B19.at.sub 0 6) rfl (fun h => h) (y_loadN (vs := [.int .u8 u.a, .int .u8 u.b, .int .u8 u.c, .int .u8 u.d, .int .u8 u.e, .slice ao xs.length cap]) Try.isAgg25 Try.sizeOf25 rfl rfl rfl (B19.at.sub 0 6) rfl (fun h => h) (s_or ?_ ?_))
  ·
   refine s_do (t_call own8 rfl rfl rfl rfl (small_c u _ _ _ _ hu) (fun v20 w21 r23 => ?_))
   obtain ⟨rfl, u22⟩ := r23
   have zu22 := u22.size
   have E24 := E18.nx u22
   refine s_next ((Upd.refl _ _).nx u22) (s_or ?_ ?_)
   ·
    refine s_do (t_call own9 rfl rfl rfl rfl (smallD_v u xs ao b o cap 10 _ (hx.keep E24 (fun _ h => h)) hxl hxs (by decide) (by omega)) (fun v26 w27 r29 => ?_))
    obtain ⟨⟨aoD25, gD25, cD25, l, hle, rfl, haD25⟩, u28⟩ := r29
    have zu28 := u28.size
    have hll : l.length ≤ 10 := by rw [hle]; exact dsOf_len _ _
    have hod : ∀ d ∈ l, okDty d = true := by rw [hle]; exact dsOf_ok hxs
    have lt_gD25 := haD25.lt
    refine s_next ((Upd.refl _ _).nx u28) (s_do (t_alloc (cs := [.int .i64 0, .int .i64 0, .int .i64 0, .int .i64 0, .int .i64 0]) Try.zeroValue28 rfl rfl rfl (fun bk31 w32 ebk31 sbk31 B33 u34 => ?_)))
    have zu34 := u34.size
    refine s_next ((Upd.refl _ _).nx u34) (s_do (t_st (vs := [.int .i64 ((smR u).rest), .int .i64 ((smR u).span), .int .i64 ((smR u).work), .int .i64 ((smR u).week), .int .i64 ((smR u).ww)]) Try.sizeOf28 rfl rfl rfl B33 rfl rfl rfl rfl (fun w36 sw36 B38 u37 => ?_)))
    have zu37 := u37.size
    have B38 : Blk w36 bk31 28 [.int .i64 ((smR u).rest), .int .i64 ((smR u).span), .int .i64 ((smR u).work), .int .i64 ((smR u).week), .int .i64 ((smR u).ww)] := B38
    refine s_next ((Upd.refl _ _).next u37 (fun i hi (h : i = bk31) => show w16.heap.size ≤ i ∨ (False) by first | omega | exact .inr h)) (y_assign rfl rfl rfl (s_nil ?_))
    have D40 := ((haD25.keep u34 (fun _ h => h)).keep u37 (fun hb => show ¬ (gD25 = bk31) by first | omega | assumption))
    exact hK13 (w21.heap.size, bk31, aoD25, gD25, cD25, l) _ _ ⟨rfl, rfl, rfl, rfl, trivial⟩ ⟨((((((Upd.refl _ _).next u17 (fun _ _ h => h.elim)).next u22 (fun _ _ h => h.elim)).next u28 (fun _ _ h => h.elim)).next u34 (fun _ _ h => h.elim)).next u37 (fun i hi h => by omega)), B38, D40, hle, (by show w8.heap.size ≤ bk31 ∧ w8.heap.size ≤ w21.heap.size; omega)⟩
   refine s_do (t_alloc (cs := [.int .i64 0, .int .i64 0, .int .i64 0, .int .i64 0, .int .i64 0]) Try.zeroValue28 rfl rfl rfl (fun bk41 w42 ebk41 sbk41 B43 u44 => ?_))
   have zu44 := u44.size
   refine s_next ((Upd.refl _ _).nx u44) (s_do (t_call own9 rfl rfl rfl rfl (smallD_v u xs ao b o cap 10 _ (hx.keep (E24.nx u44) (fun _ h => h)) hxl hxs (by decide) (by omega)) (fun v47 w48 r50 => ?_)))
   obtain ⟨⟨aoD46, gD46, cD46, l, hle, rfl, haD46⟩, u49⟩ := r50
   have zu49 := u49.size
   have hll : l.length ≤ 10 := by rw [hle]; exact dsOf_len _ _
   have hod : ∀ d ∈ l, okDty d = true := by rw [hle]; exact dsOf_ok hxs
   have lt_gD46 := haD46.lt
   refine s_next ((Upd.refl _ _).nx u49) (s_do ?_)
   have B52 := (B43.kx u49)
   refine t_st (vs := [.int .i64 ((smR u).rest), .int .i64 ((smR u).span), .int .i64 ((smR u).work), .int .i64 ((smR u).week), .int .i64 ((smR u).ww)]) Try.sizeOf28 rfl rfl rfl B52 rfl rfl rfl rfl (fun w53 sw53 B55 u54 => ?_)
   have zu54 := u54.size
   have B55 : Blk w53 bk41 28 [.int .i64 ((smR u).rest), .int .i64 ((smR u).span), .int .i64 ((smR u).work), .int .i64 ((smR u).week), .int .i64 ((smR u).ww)] := B55
   refine s_next ((Upd.refl _ _).next u54 (fun i hi (h : i = bk41) => show w16.heap.size ≤ i ∨ (False) by first | omega | exact .inr h)) (y_assign rfl rfl rfl (s_nil ?_))
   have D57 := (haD46.keep u54 (fun hb => show ¬ (gD46 = bk41) by first | omega | assumption))
   exact hK13 (w42.heap.size, bk41, aoD46, gD46, cD46, l) _ _ ⟨rfl, rfl, rfl, rfl, trivial⟩ ⟨((((((Upd.refl _ _).next u17 (fun _ _ h => h.elim)).next u22 (fun _ _ h => h.elim)).next u44 (fun _ _ h => h.elim)).next u49 (fun _ _ h => h.elim)).next u54 (fun i hi h => by omega)), B55, D57, hle, (by show w8.heap.size ≤ bk41 ∧ w8.heap.size ≤ w42.heap.size; omega)⟩
  refine s_do (t_alloc (cs := [.int .i64 0, .int .i64 0, .int .i64 0, .int .i64 0, .int .i64 0]) Try.zeroValue28 rfl rfl rfl (fun bk58 w59 ebk58 sbk58 B60 u61 => ?_))
  have zu61 := u61.size
  refine s_next ((Upd.refl _ _).nx u61) (s_do (t_call own8 rfl rfl rfl rfl (small_c u _ _ _ _ hu) (fun v63 w64 r66 => ?_)))
  obtain ⟨rfl, u65⟩ := r66
  have zu65 := u65.size
  refine s_next ((Upd.refl _ _).nx u65) (s_do (t_call own9 rfl rfl rfl rfl (smallD_v u xs ao b o cap 10 _ (hx.keep ((E18.nx u61).nx u65) (fun _ h => h)) hxl hxs (by decide) (by omega)) (fun v69 w70 r72 => ?_)))
  obtain ⟨⟨aoD68, gD68, cD68, l, hle, rfl, haD68⟩, u71⟩ := r72
  have zu71 := u71.size
  have hll : l.length ≤ 10 := by rw [hle]; exact dsOf_len _ _
  have hod : ∀ d ∈ l, okDty d = true := by rw [hle]; exact dsOf_ok hxs
  have lt_gD68 := haD68.lt
  refine s_next ((Upd.refl _ _).nx u71) (s_do ?_)
  have B74 := ((B60.kx u65).kx u71)
  refine t_st (vs := [.int .i64 ((smR u).rest), .int .i64 ((smR u).span), .int .i64 ((smR u).work), .int .i64 ((smR u).week), .int .i64 ((smR u).ww)]) Try.sizeOf28 rfl rfl rfl B74 rfl rfl rfl rfl (fun w75 sw75 B77 u76 => ?_)
  have zu76 := u76.size
  have B77 : Blk w75 bk58 28 [.int .i64 ((smR u).rest), .int .i64 ((smR u).span), .int .i64 ((smR u).work), .int .i64 ((smR u).week), .int .i64 ((smR u).ww)] := B77
  refine s_next ((Upd.refl _ _).next u76 (fun i hi (h : i = bk58) => show w16.heap.size ≤ i ∨ (False) by first | omega | exact .inr h)) (y_assign rfl rfl rfl (s_nil ?_))
  have D79 := (haD68.keep u76 (fun hb => show ¬ (gD68 = bk58) by first | omega | assumption))
  exact hK13 (w64.heap.size, bk58, aoD68, gD68, cD68, l) _ _ ⟨rfl, rfl, rfl, rfl, trivial⟩ ⟨((((((Upd.refl _ _).next u17 (fun _ _ h => h.elim)).next u61 (fun _ _ h => h.elim)).next u65 (fun _ _ h => h.elim)).next u71 (fun _ _ h => h.elim)).next u76 (fun i hi h => by omega)), B77, D79, hle, (by show w8.heap.size ≤ bk58 ∧ w8.heap.size ≤ w64.heap.size; omega)⟩
 intro gg w14 hW
 obtain ⟨bs, b7, al, gl, cl, l⟩ := gg
 change WC _ _ _ _ _ _ [(1, .int .u8 p), (5, .pointer (some ⟨bk7, 0, none⟩)), (7, .pointer (some ⟨b7, 0, none⟩)), (8, .slice al l.length cl)] _
 change Upd (fun _ => False) w8 w14 ∧ (Blk w14 b7 28 [.int .i64 ((smR u).rest), .int .i64 ((smR u).span), .int .i64 ((smR u).work), .int .i64 ((smR u).week), .int .i64 ((smR u).ww)]) ∧ (Acc encDty 4 40 bs w14 al gl cl l) ∧ (l = dsOf xs 10) ∧ (w8.heap.size ≤ b7 ∧ w8.heap.size ≤ bs) at hW
 obtain ⟨u15, I80, I81, I82, I83⟩ := hW
 have zu15 := u15.size
 have hb7 := I80; clear I80
 have hla := I81; clear I81
 have hle := I82; clear I82
 have hbb := I83; clear I83
 have lt_gl := hla.lt
 have hll : l.length ≤ 10 := by rw [hle]; exact dsOf_len _ _
 have hod : ∀ d ∈ l, okDty d = true := by rw [hle]; exact dsOf_ok hxs
 have lt_b7 := hb7.lt
 have hcap := hla.cap_le
 refine c_seq fun K85 hK85 => (c_drawnM follows (fun _ => False) (.look 0 (.look 1 (.act 2 (.act 3 (.look 4 (.look 5 (.look 6 (.look 7 (.look 8 (.look 9 (.look 10 (.look 11 (.look 12 .done))))))))) .stop) .stop))) (by kernel_rfl) fun w86 u87 => ?_)
 have zu87 := u87.size
 have B89 := (hb7.kx u87)
 refine y_loadN (vs := [.int .i64 ((smR u).rest), .int .i64 ((smR u).span), .int .i64 ((smR u).work), .int .i64 ((smR u).week), .int .i64 ((smR u).ww)]) Try.isAgg28 Try.sizeOf28 rfl rfl rfl (B89.at.sub 0 5) rfl (fun h => h) (y_move rfl rfl rfl (s_do ?_))
 have D91 := (hla.keep u87 (fun _ h => h))
 refine t_call own11 rfl rfl rfl rfl (duties_c l al gl 0 cl _ (D91.sl (fun _ => rfl)) (by omega) (by omega)) (fun v92 w93 r95 => ?_)
 obtain ⟨⟨aoY90, gY90, cY90, rfl, haY90⟩, u94⟩ := r95
 have zu94 := u94.size
 have lt_gY90 := haY90.lt
 refine s_next ((Upd.refl _ _).nx u94) (s_do (t_call own10 rfl rfl rfl rfl (Rested_v aoY90 gY90 0 cY90 _ (haY90.sl (fun _ => rfl)) (chk_of hr (by omega) hod) (by omega)) (fun v97 w98 r100 => ?_)))
 obtain ⟨⟨at1, rule1, rfl, hR1⟩, u99⟩ := r100
 have zu99 := u99.size
 refine s_next ((Upd.refl _ _).nx u99) (y_move rfl rfl rfl (y_extract rfl rfl rfl rfl (y_extract rfl rfl rfl rfl (y_extract rfl rfl rfl rfl (y_extract rfl rfl rfl rfl (y_assign rfl rfl rfl (y_assign rfl rfl rfl (y_assign rfl rfl rfl (y_assign rfl rfl rfl (s_nil (hK85 _ _ (c_seq fun K102 hK102 => (c_drawnM follows (fun _ => False) (.look 0 (.look 1 (.act 2 (.act 3 (.look 4 (.look 5 (.look 6 (.look 7 (.look 8 .done))))) .stop) .stop))) (by kernel_rfl) fun w103 u104 => ?_)))))))))))))
 have zu104 := u104.size
 have B106 := ((((hb7.kx u87).kx u94).kx u99).kx u104)
 refine y_loadN (vs := [.int .i64 ((smR u).rest), .int .i64 ((smR u).span), .int .i64 ((smR u).work), .int .i64 ((smR u).week), .int .i64 ((smR u).ww)]) Try.isAgg28 Try.sizeOf28 rfl rfl rfl (B106.at.sub 0 5) rfl (fun h => h) (y_move rfl rfl rfl (s_do ?_))
 have D108 := (((D91.keep u94 (fun _ h => h)).keep u99 (fun _ h => h)).keep u104 (fun _ h => h))
 refine t_call own11 rfl rfl rfl rfl (duties_c l al gl 0 cl _ (D108.sl (fun _ => rfl)) (by omega) (by omega)) (fun v109 w110 r112 => ?_)
 obtain ⟨⟨aoY107, gY107, cY107, rfl, haY107⟩, u111⟩ := r112
 have zu111 := u111.size
 have lt_gY107 := haY107.lt
 refine s_next ((Upd.refl _ _).nx u111) (s_do (t_call own16 rfl rfl rfl rfl (Shifts_v aoY107 gY107 0 cY107 _ (haY107.sl (fun _ => rfl)) (chk_of hr (by omega) hod) (by omega)) (fun v114 w115 r117 => ?_)))
 obtain ⟨⟨aoS, gS, cS, sh, rfl, hSh, hsh⟩, u116⟩ := r117
 have zu116 := u116.size
 obtain ⟨hS, hsw, hs0, hsg⟩ := shD_ok hr hod hsh
 have hwr := wrkD_rng hod (Nat.le_refl _)
 have hsl : sh.length ≤ 10 := by rw [hsh]; have h9 := shifts_len (r := smR u) (l := srtS (l.map lngS)); rw [srt_len, List.length_map] at h9; omega
 refine s_next ((Upd.refl _ _).nx u116) (y_move rfl rfl rfl (y_extract rfl rfl rfl rfl (y_extract rfl rfl rfl rfl (y_assign rfl rfl rfl (y_assign rfl rfl rfl (s_nil (hK102 _ _ (c_seq fun K119 hK119 => (c_seq fun K120 hK120 => (c_region (t_move rfl rfl rfl (t_cmp rfl rfl rfl rfl rfl (t_samehd (v := .bool false) rfl (t_move rfl rfl rfl (t_move rfl rfl rfl (t_cmp rfl rfl rfl rfl rfl (t_samehd (v := .bool false) rfl (t_pick_f rfl rfl rfl rfl (t_nil' (hK120 _ _ (c_cond_f rfl (c_skip (hK119 _ _ ?_)))))))))))))))))))))))
 refine c_seq fun K121 hK121 => (c_region (t_assign rfl rfl rfl (t_nil' (hK121 _ _ (c_seq fun K122 hK122 => (c_seq fun K123 hK123 => (c_region (t_assign rfl rfl rfl (t_nil' (hK123 _ _ (c_block (c_loop (γ := Nat) (fun k => [(1, .int .u8 p), (5, .pointer (some ⟨bk7, 0, none⟩)), (7, .pointer (some ⟨b7, 0, none⟩)), (8, .slice al l.length cl), (9, .int .i64 at1), (11, .bool (decide (brokP (smR u) (srtS (l.map shtS)) = 0))), (13, .slice aoS sh.length cS), (15, .int .i64 (wrkD l k)), (16, .int .i64 (k : Int))]) (fun k w => Upd (fun _ => False) w115 w ∧ (k ≤ l.length)) (fun k => l.length - k) 0 ⟨rfl, rfl, rfl, rfl, rfl, rfl, rfl, rfl, rfl, trivial⟩ ⟨Upd.refl _ _, (Nat.zero_le _)⟩ ?_))))))))))))
 intro k w125 hW K124 hK124
 obtain ⟨u126, I127⟩ := hW
 have zu126 := u126.size
 have hk := I127; clear I127
 refine c_seq fun K129 hK129 => (c_seq fun K130 hK130 => (c_region (t_move rfl rfl rfl (t_move rfl rfl rfl (t_len Try.underlying30 rfl rfl rfl rfl (t_cmp rfl rfl rfl rfl rfl (t_nil' (hK130 _ _ (c_condp rfl (fun g53 => ?_) (fun g53 => ?_))))))))))
 ·
  have hwk := wrkD_rng hod (show k ≤ l.length by omega)
  have hod9 := lng_ok (hod _ (nth_mem (show k < l.length by omega)))
  unfold OkSp lngS at hod9; simp only [] at hod9
  refine c_skip (hK129 _ _ (c_seq fun K131 hK131 => (c_block (c_drawnM follows (fun _ => False) (.look 0 (.look 1 (.look 2 (.look 3 (.look 4 (.look 5 (.look 6 (.look 7 (.look 8 (.look 9 (.look 10 (.look 11 (.look 12 (.look 13 (.look 14 (.look 15 .done)))))))))))))))) (by kernel_rfl) fun w132 u133 => ?_))))
  have zu133 := u133.size
  refine y_move rfl rfl rfl (y_move rfl rfl rfl (y_move rfl rfl rfl ?_))
  have D135 := ((((D108.keep u111 (fun _ h => h)).keep u116 (fun _ h => h)).keep u126 (fun _ h => h)).keep u133 (fun _ h => h))
  have i136 : k < l.length := (by omega)
  refine y_index (j := k) Try.underlying30 Try.sizeOf40 rfl rfl rfl rfl ((D135.sl (fun _ => rfl)).addr (by omega)) rfl i136 (y_field Try.underlying40 rfl Try.sizeOf38 (0 + k * 4 + 2) rfl rfl rfl rfl (y_field Try.underlying38 rfl Try.sizeOf3 (0 + k * 4 + 2 + 1) rfl rfl rfl rfl ?_))
  have D137 := ((((D108.keep u111 (fun _ h => h)).keep u116 (fun _ h => h)).keep u126 (fun _ h => h)).keep u133 (fun _ h => h))
  refine y_load Try.isAgg3 rfl rfl rfl (((D137.sl (fun _ => rfl)).at_ k (by omega)) 3 _ rfl) (fun h => h) (y_move rfl rfl rfl (y_move rfl rfl rfl ?_))
  have i138 : k < l.length := (by omega)
  refine y_index (j := k) Try.underlying30 Try.sizeOf40 rfl rfl rfl rfl ((D135.sl (fun _ => rfl)).addr (by omega)) rfl i138 (y_field Try.underlying40 rfl Try.sizeOf38 (0 + k * 4 + 0) rfl rfl rfl rfl (y_field Try.underlying38 rfl Try.sizeOf3 (0 + k * 4 + 0 + 0) rfl rfl rfl rfl (y_load Try.isAgg3 rfl rfl rfl (((D137.sl (fun _ => rfl)).at_ k (by omega)) 0 _ rfl) (fun h => h) (y_ari rfl rfl rfl rfl rfl (by omega) (y_ari rfl rfl rfl rfl rfl (by omega) (y_assign rfl rfl rfl (s_nil (hK131 _ _ (c_region (t_move rfl rfl rfl (t_ari rfl rfl rfl rfl rfl (by omega) (t_assign rfl rfl rfl (t_nil' ?_)))))))))))))
  exact hK124 (k + 1) _ _ (by omega) ⟨rfl, rfl, rfl, rfl, rfl, rfl, rfl, (congrArg (fun z => some (Value.int .i64 z)) (wrkD_succ (by omega)).symm), rfl, trivial⟩ ⟨(u126.next u133 (fun _ _ h => h.elim)), (by omega)⟩
 refine c_same 15 (v := .int .i64 (wrkD l l.length)) rfl (congrArg (Value.int .i64) (by rw [show k = l.length by omega])) (c_exit (hK122 _ _ (c_seq fun K139 hK139 => (c_seq fun K140 hK140 => (c_region (t_assign rfl rfl rfl (t_nil' (hK140 _ _ (c_block (c_loop (γ := Nat) (fun k => [(1, .int .u8 p), (5, .pointer (some ⟨bk7, 0, none⟩)), (7, .pointer (some ⟨b7, 0, none⟩)), (8, .slice al l.length cl), (9, .int .i64 at1), (11, .bool (decide (brokP (smR u) (srtS (l.map shtS)) = 0))), (13, .slice aoS sh.length cS), (15, .int .i64 ((wrkD l l.length) - shW sh k)), (17, .int .i64 (k : Int))]) (fun k w => Upd (fun _ => False) w125 w ∧ (k ≤ sh.length)) (fun k => sh.length - k) 0 ⟨rfl, rfl, rfl, rfl, rfl, rfl, rfl, (congrArg (fun z => some (Value.int .i64 z)) (show (wrkD l l.length) = (wrkD l l.length) - shW sh 0 by rw [show shW sh 0 = 0 from rfl]; omega)), rfl, trivial⟩ ⟨Upd.refl _ _, (Nat.zero_le _)⟩ ?_))))))))))
 intro k w142 hW K141 hK141
 obtain ⟨u143, I144⟩ := hW
 have zu143 := u143.size
 have hk := I144; clear I144
 refine c_seq fun K146 hK146 => (c_seq fun K147 hK147 => (c_region (t_move rfl rfl rfl (t_move rfl rfl rfl (t_len Try.underlying52 rfl rfl rfl rfl (t_cmp rfl rfl rfl rfl rfl (t_nil' (hK147 _ _ (c_condp rfl (fun g74 => ?_) (fun g74 => ?_))))))))))
 ·
  have hbe := hS.be k (by omega)
  have hsgk := hsg k (by omega)
  have hww := (shW_rng hS.ww (show k ≤ sh.length by omega))
  have hw1 := hww.1
  have hw2 := hww.2 sh.length (by omega) (Nat.le_refl _)
  have hw3 := hS.ww k (by omega)
  have hw4 := (shW_rng hS.ww (show k + 1 ≤ sh.length by omega)).2 sh.length (by omega) (Nat.le_refl _)
  rw [shW_succ (by omega)] at hw4
  refine c_skip (hK146 _ _ (c_seq fun K148 hK148 => (c_block (c_seq fun K149 hK149 => (c_region (t_move rfl rfl rfl (t_move rfl rfl rfl (t_move rfl rfl rfl ?_))))))))
  have D150 := ((hSh.keep u126 (fun _ h => h)).keep u143 (fun _ h => h))
  have i151 : k < sh.length := (by omega)
  refine t_index (j := k) Try.underlying52 Try.sizeOf56 rfl rfl rfl rfl (D150.addr (by omega)) rfl i151 (t_field Try.underlying56 rfl Try.sizeOf3 (0 + k * 3 + 2) rfl rfl rfl rfl (t_load Try.isAgg3 rfl rfl rfl ((D150.at_ k (by omega)) 2 _ rfl) (t_ari rfl rfl rfl rfl rfl (by omega) (t_assign rfl rfl rfl (t_nil' (hK149 _ _ (c_seq fun K152 hK152 => (c_drawnM follows (fun _ => False) (.look 0 (.look 1 (.look 2 (.look 3 (.look 4 (.look 5 (.look 6 (.look 7 (.look 8 (.look 9 (.look 10 (.look 11 (.look 12 (.look 13 (.look 14 (.look 15 (.look 16 (.look 17 (.look 18 (.look 19 (.look 20 (.look 21 (.look 22 (.look 23 (.look 24 (.look 25 (.look 26 (.look 27 (.look 28 (.look 29 (.look 30 (.look 31 .done)))))))))))))))))))))))))))))))) (by kernel_rfl) fun w153 u154 => ?_))))))))
  have zu154 := u154.size
  refine y_move rfl rfl rfl (y_move rfl rfl rfl ?_)
  have D156 := (D150.keep u154 (fun _ h => h))
  have i157 : k < sh.length := (by omega)
  refine y_index (j := k) Try.underlying52 Try.sizeOf56 rfl rfl rfl rfl (D156.addr (by omega)) rfl i157 (y_field Try.underlying56 rfl Try.sizeOf3 (0 + k * 3 + 0) rfl rfl rfl rfl ?_)
  have D158 := (D150.keep u154 (fun _ h => h))
  refine y_load Try.isAgg3 rfl rfl rfl ((D158.at_ k (by omega)) 0 _ rfl) (fun h => h) (y_move rfl rfl rfl (y_move rfl rfl rfl ?_))
  have i159 : k < sh.length := (by omega)
  refine y_index (j := k) Try.underlying52 Try.sizeOf56 rfl rfl rfl rfl (D156.addr (by omega)) rfl i159 (y_field Try.underlying56 rfl Try.sizeOf3 (0 + k * 3 + 1) rfl rfl rfl rfl (y_load Try.isAgg3 rfl rfl rfl ((D158.at_ k (by omega)) 1 _ rfl) (fun h => h) (y_cmp rfl rfl rfl rfl rfl (y_same 94 (v := .bool false) rfl (congrArg Value.bool (decide_eq_false (by omega))) (y_move rfl rfl rfl (y_move rfl rfl rfl (y_cmp rfl rfl rfl rfl rfl (y_move rfl rfl rfl (y_splitp 98 rfl (fun g98 => ?_) (fun g98 => ?_))))))))))
  ·
   have hgp := hS.gap (k - 1) (by omega)
   rw [show k - 1 + 1 = k by omega] at hgp
   have hbe1 := hS.be (k - 1) (by omega)
   have hsgk1 := hsg (k - 1) (by omega)
   refine y_move rfl rfl rfl (y_move rfl rfl rfl ?_)
   have i160 : k < sh.length := (by omega)
   refine y_index (j := k) Try.underlying52 Try.sizeOf56 rfl rfl rfl rfl (D156.addr (by omega)) rfl i160 (y_field Try.underlying56 rfl Try.sizeOf3 (0 + k * 3 + 0) rfl rfl rfl rfl (y_load Try.isAgg3 rfl rfl rfl ((D158.at_ k (by omega)) 0 _ rfl) (fun h => h) (y_move rfl rfl rfl (y_move rfl rfl rfl (y_ari rfl rfl rfl rfl rfl (by omega) ?_)))))
   have i161 : (k - 1) < sh.length := (by omega)
   refine y_index (j := (k - 1)) Try.underlying52 Try.sizeOf56 rfl rfl rfl rfl (D156.addr (by omega)) (by omega) i161 (y_field Try.underlying56 rfl Try.sizeOf3 (0 + (k - 1) * 3 + 1) rfl rfl rfl rfl (y_load Try.isAgg3 rfl rfl rfl ((D158.at_ (k - 1) (by omega)) 1 _ rfl) (fun h => h) (y_field Try.underlying28 rfl Try.sizeOf3 (0) rfl rfl rfl rfl ?_)))
   have B162 := (((((((((hb7.kx u87).kx u94).kx u99).kx u104).kx u111).kx u116).kx u126).kx u143).kx u154)
   refine y_load Try.isAgg3 rfl rfl rfl (B162.get rfl) (fun h => h) (y_ari rfl rfl rfl rfl rfl (by omega) (y_cmp rfl rfl rfl rfl rfl (y_same 113 (v := .bool false) rfl (congrArg Value.bool (decide_eq_false (by omega))) (y_pick_t rfl rfl rfl rfl (y_pick_f rfl rfl rfl rfl (s_nil (hK152 _ _ (c_cond_f rfl (c_skip (hK148 _ _ (c_region (t_move rfl rfl rfl (t_ari rfl rfl rfl rfl rfl (by omega) (t_assign rfl rfl rfl (t_nil' ?_)))))))))))))))
   exact hK141 (k + 1) _ _ (by omega) ⟨rfl, rfl, rfl, rfl, rfl, rfl, rfl, (congrArg (fun z => some (Value.int .i64 z)) (by rw [shW_succ (by omega)]; omega)), rfl, trivial⟩ ⟨(u143.next u154 (fun _ _ h => h.elim)), (by omega)⟩
  refine y_skip rfl rfl rfl (y_skip rfl rfl rfl (y_skip rfl rfl rfl (y_skip rfl rfl rfl (y_skip rfl rfl rfl (y_skip rfl rfl rfl (y_skip rfl rfl rfl (y_skip rfl rfl rfl (y_skip rfl rfl rfl (y_skip rfl rfl rfl (y_skip rfl rfl rfl (y_skip rfl rfl rfl (y_skip rfl rfl rfl (y_skip rfl rfl rfl (y_skip rfl rfl rfl (y_pick_f rfl rfl rfl rfl (y_pick_f rfl rfl rfl rfl (s_nil (hK152 _ _ (c_cond_f rfl (c_skip (hK148 _ _ (c_region (t_move rfl rfl rfl ?_)))))))))))))))))))))))
  refine t_ari rfl rfl rfl rfl rfl (by omega) (t_assign rfl rfl rfl (t_nil' ?_))
  exact hK141 (k + 1) _ _ (by omega) ⟨rfl, rfl, rfl, rfl, rfl, rfl, rfl, (congrArg (fun z => some (Value.int .i64 z)) (by rw [shW_succ (by omega)]; omega)), rfl, trivial⟩ ⟨(u143.next u154 (fun _ _ h => h.elim)), (by omega)⟩
 have hks : k = sh.length := by omega
 have hswk : shW sh k = wrkD l l.length := by rw [hks]; exact hsw
 refine c_exit (hK139 _ _ (c_seq fun K163 hK163 => (c_seq fun K164 hK164 => (c_region (t_move rfl rfl rfl (t_cmp rfl rfl rfl rfl rfl (t_same 117 (v := .bool false) rfl (congrArg Value.bool (decide_eq_false (by omega))) (t_move rfl rfl rfl (t_move rfl rfl rfl (t_len Try.underlying52 rfl rfl rfl rfl (t_cmp rfl rfl rfl rfl rfl (t_move rfl rfl rfl (t_len Try.underlying30 rfl rfl rfl rfl (t_cmp rfl rfl rfl rfl rfl (t_neB Try.underlying4 rfl rfl rfl rfl (t_same 125 (v := .bool false) rfl (congrArg Value.bool (decide_eq_false (fun h => h (by rw [Bool.eq_iff_iff]; simp only [decide_eq_true_eq]; omega)))) (t_pick_f rfl rfl rfl rfl (t_nil' (hK164 _ _ (c_cond_f rfl (c_skip (hK163 _ _ (c_seq fun K165 hK165 => ?_)))))))))))))))))))))))
 refine c_region ?_
 have B166 := ((((((((hb7.kx u87).kx u94).kx u99).kx u104).kx u111).kx u116).kx u126).kx u143)
 refine t_loadN (vs := [.int .i64 ((smR u).rest), .int .i64 ((smR u).span), .int .i64 ((smR u).work), .int .i64 ((smR u).week), .int .i64 ((smR u).ww)]) Try.isAgg28 Try.sizeOf28 rfl rfl rfl (B166.at.sub 0 5) rfl (t_alloc (cs := [.int .i64 0, .int .i64 0, .int .i64 0, .int .i64 0, .int .i64 0]) Try.zeroValue28 rfl rfl rfl (fun bk167 w168 ebk167 sbk167 B169 u170 => ?_))
 have zu170 := u170.size
 refine t_st (vs := [.int .i64 ((smR u).rest), .int .i64 ((smR u).span), .int .i64 ((smR u).work), .int .i64 ((smR u).week), .int .i64 ((smR u).ww)]) Try.sizeOf28 rfl rfl rfl B169 rfl rfl rfl rfl (fun w172 sw172 B174 u173 => ?_)
 have zu173 := u173.size
 have B174 : Blk w172 bk167 28 [.int .i64 ((smR u).rest), .int .i64 ((smR u).span), .int .i64 ((smR u).work), .int .i64 ((smR u).week), .int .i64 ((smR u).ww)] := B174
 refine t_nil' (hK165 _ _ (c_seq fun K176 hK176 => (c_drawnM follows (fun i => i = bk167) (.look 0 (.look 1 (.look 2 (.look 3 (.look 4 (.look 5 (.look 6 (.look 7 (.look 8 (.look 9 (.look 10 (.look 11 (.look 12 (.look 13 (.look 14 (.look 15 (.look 16 (.look 17 (.look 18 (.look 19 (.look 20 (.look 21 (.look 22 (.look 23 (.look 24 (.look 25 (.act 26 (.look 27 (.act 28 (.look 29 (.act 30 (.look 31 (.act 32 .done .stop)) .stop)) .stop)) .stop))))))))))))))))))))))))))) (by kernel_rfl) fun w177 u178 => ?_)))
 have zu178 := u178.size
 refine y_field Try.underlying28 rfl Try.sizeOf3 (0) rfl rfl rfl rfl ?_
 have B180 := (((B166.kx u170).keep u173 (by omega)).kx u178)
 refine y_load Try.isAgg3 rfl rfl rfl (B180.get rfl) (by show ¬ (b7 = bk167); first | omega | assumption) (y_indexArr (j := 0) (0) Try.underlying22 Try.sizeOf5 rfl rfl rfl rfl rfl (by decide) rfl ?_)
 have B181 := ((((((((((((B9.kx u15).kx u87).kx u94).kx u99).kx u104).kx u111).kx u116).kx u126).kx u143).kx u170).keep u173 (by omega)).kx u178)
 refine y_load Try.isAgg5 rfl rfl rfl (B181.get rfl) (by show ¬ (bk7 = bk167); first | omega | assumption) (y_conv Try.underlying5 Try.underlying3 rfl rfl rfl (IntWalk.i64_in _ (by omega)) (y_ari rfl rfl rfl rfl rfl (by omega) (y_max rfl rfl rfl rfl (y_field Try.underlying28 rfl Try.sizeOf3 (1) rfl rfl rfl rfl (y_load Try.isAgg3 rfl rfl rfl (B180.get rfl) (by show ¬ (b7 = bk167); first | omega | assumption) (y_indexArr (j := 1) (1) Try.underlying22 Try.sizeOf5 rfl rfl rfl rfl rfl (by decide) rfl (y_load Try.isAgg5 rfl rfl rfl (B181.get rfl) (by show ¬ (bk7 = bk167); first | omega | assumption) (y_conv Try.underlying5 Try.underlying3 rfl rfl rfl (IntWalk.i64_in _ (by omega)) (y_ari rfl rfl rfl rfl rfl (by omega) (y_field Try.underlying28 rfl Try.sizeOf3 (2) rfl rfl rfl rfl (y_load Try.isAgg3 rfl rfl rfl (B180.get rfl) (by show ¬ (b7 = bk167); first | omega | assumption) (y_indexArr (j := 2) (2) Try.underlying22 Try.sizeOf5 rfl rfl rfl rfl rfl (by decide) rfl (y_load Try.isAgg5 rfl rfl rfl (B181.get rfl) (by show ¬ (bk7 = bk167); first | omega | assumption) (y_conv Try.underlying5 Try.underlying3 rfl rfl rfl (IntWalk.i64_in _ (by omega)) (y_ari rfl rfl rfl rfl rfl (by omega) (y_field Try.underlying28 rfl Try.sizeOf3 (4) rfl rfl rfl rfl (y_load Try.isAgg3 rfl rfl rfl (B180.get rfl) (by show ¬ (b7 = bk167); first | omega | assumption) (y_indexArr (j := 3) (3) Try.underlying22 Try.sizeOf5 rfl rfl rfl rfl rfl (by decide) rfl (y_load Try.isAgg5 rfl rfl rfl (B181.get rfl) (by show ¬ (bk7 = bk167); first | omega | assumption) (y_conv Try.underlying5 Try.underlying3 rfl rfl rfl (IntWalk.i64_in _ (by omega)) (y_ari rfl rfl rfl rfl rfl (by omega) (y_field Try.underlying28 rfl Try.sizeOf3 (0) rfl rfl rfl rfl (s_do ?_)))))))))))))))))))))))
 have B182 := (B174.kx u178)
 refine t_st (vs := [.int .i64 (max 1 (((smR u).rest) - q.a))]) Try.sizeOf3 rfl rfl rfl B182 rfl rfl rfl rfl (fun w183 sw183 B185 u184 => ?_)
 have zu184 := u184.size
 have B185 : Blk w183 bk167 28 [.int .i64 (max 1 (((smR u).rest) - q.a)), .int .i64 ((smR u).span), .int .i64 ((smR u).work), .int .i64 ((smR u).week), .int .i64 ((smR u).ww)] := B185
 refine s_next ((Upd.refl _ _).next u184 (fun i hi (h : i = bk167) => show w177.heap.size ≤ i ∨ (i = bk167) by first | omega | exact .inr h)) (y_field Try.underlying28 rfl Try.sizeOf3 (1) rfl rfl rfl rfl (s_do (t_st (vs := [.int .i64 ((smR u).span + q.b)]) Try.sizeOf3 rfl rfl rfl B185 rfl rfl rfl rfl (fun w187 sw187 B189 u188 => ?_))))
 have zu188 := u188.size
 have B189 : Blk w187 bk167 28 [.int .i64 (max 1 (((smR u).rest) - q.a)), .int .i64 ((smR u).span + q.b), .int .i64 ((smR u).work), .int .i64 ((smR u).week), .int .i64 ((smR u).ww)] := B189
 refine s_next ((Upd.refl _ _).next u188 (fun i hi (h : i = bk167) => show w177.heap.size ≤ i ∨ (i = bk167) by first | omega | exact .inr h)) (y_field Try.underlying28 rfl Try.sizeOf3 (2) rfl rfl rfl rfl (s_do (t_st (vs := [.int .i64 ((smR u).work + q.c)]) Try.sizeOf3 rfl rfl rfl B189 rfl rfl rfl rfl (fun w191 sw191 B193 u192 => ?_))))
 have zu192 := u192.size
 have B193 : Blk w191 bk167 28 [.int .i64 (max 1 (((smR u).rest) - q.a)), .int .i64 ((smR u).span + q.b), .int .i64 ((smR u).work + q.c), .int .i64 ((smR u).week), .int .i64 ((smR u).ww)] := B193
 refine s_next ((Upd.refl _ _).next u192 (fun i hi (h : i = bk167) => show w177.heap.size ≤ i ∨ (i = bk167) by first | omega | exact .inr h)) (y_field Try.underlying28 rfl Try.sizeOf3 (4) rfl rfl rfl rfl (s_do (t_st (vs := [.int .i64 ((smR u).ww + q.d)]) Try.sizeOf3 rfl rfl rfl B193 rfl rfl rfl rfl (fun w195 sw195 B197 u196 => ?_))))
 have zu196 := u196.size
 have B197 : Blk w195 bk167 28 [.int .i64 (max 1 (((smR u).rest) - q.a)), .int .i64 ((smR u).span + q.b), .int .i64 ((smR u).work + q.c), .int .i64 ((smR u).week), .int .i64 ((smR u).ww + q.d)] := B197
 refine s_next ((Upd.refl _ _).next u196 (fun i hi (h : i = bk167) => show w177.heap.size ≤ i ∨ (i = bk167) by first | omega | exact .inr h)) (s_nil (hK176 _ _ (c_seq fun K199 hK199 => ?_)))
 have B200 : Blk w195 bk167 28 [.int .i64 ((mlR u q).rest), .int .i64 ((mlR u q).span), .int .i64 ((mlR u q).work), .int .i64 ((mlR u q).week), .int .i64 ((mlR u q).ww)] := by
   have e : ([.int .i64 (max 1 (((smR u).rest) - q.a)), .int .i64 ((smR u).span + q.b), .int .i64 ((smR u).work + q.c), .int .i64 ((smR u).week), .int .i64 ((smR u).ww + q.d)] : List Value) = [.int .i64 ((mlR u q).rest), .int .i64 ((mlR u q).span), .int .i64 ((mlR u q).work), .int .i64 ((mlR u q).week), .int .i64 ((mlR u q).ww)] := rfl
   rw [← e]; exact B197
 refine c_drawnM follows (fun _ => False) (.look 0 (.look 1 (.act 2 (.act 3 (.look 4 (.look 5 (.look 6 (.look 7 (.look 8 (.look 9 (.look 10 (.look 11 (.look 12 .done))))))))) .stop) .stop))) (by kernel_rfl) fun w201 u202 => ?_
 have zu202 := u202.size
 have B204 := (B200.kx u202)
 refine y_loadN (vs := [.int .i64 ((mlR u q).rest), .int .i64 ((mlR u q).span), .int .i64 ((mlR u q).work), .int .i64 ((mlR u q).week), .int .i64 ((mlR u q).ww)]) Try.isAgg28 Try.sizeOf28 rfl rfl rfl (B204.at.sub 0 5) rfl (fun h => h) (y_move rfl rfl rfl (s_do ?_))
 have D206 := ((((((((((((D108.keep u111 (fun _ h => h)).keep u116 (fun _ h => h)).keep u126 (fun _ h => h)).keep u143 (fun _ h => h)).keep u170 (fun _ h => h)).keep u173 (fun hb => show ¬ (gl = bk167) by first | omega | assumption)).keep u178 (fun _ h => h)).keep u184 (fun hb => show ¬ (gl = bk167) by first | omega | assumption)).keep u188 (fun hb => show ¬ (gl = bk167) by first | omega | assumption)).keep u192 (fun hb => show ¬ (gl = bk167) by first | omega | assumption)).keep u196 (fun hb => show ¬ (gl = bk167) by first | omega | assumption)).keep u202 (fun _ h => h))
 refine t_call own11 rfl rfl rfl rfl (duties_c l al gl 0 cl _ (D206.sl (fun _ => rfl)) (by omega) (by omega)) (fun v207 w208 r210 => ?_)
 obtain ⟨⟨aoY205, gY205, cY205, rfl, haY205⟩, u209⟩ := r210
 have zu209 := u209.size
 have lt_gY205 := haY205.lt
 refine s_next ((Upd.refl _ _).nx u209) (s_do (t_call own10 rfl rfl rfl rfl (Rested_v aoY205 gY205 0 cY205 _ (haY205.sl (fun _ => rfl)) (chk_of hrm (by omega) hod) (by omega)) (fun v212 w213 r215 => ?_)))
 obtain ⟨⟨at2, rule2, rfl, hR2⟩, u214⟩ := r215
 have zu214 := u214.size
 obtain ⟨hm1, hm2, hm3⟩ := rest_mild hr hrm (mlR_mild hu hq) hod hR1 hR2
 refine s_next ((Upd.refl _ _).nx u214) (y_move rfl rfl rfl (y_extract rfl rfl rfl rfl (y_extract rfl rfl rfl rfl (y_extract rfl rfl rfl rfl (y_extract rfl rfl rfl rfl (y_assign rfl rfl rfl (y_assign rfl rfl rfl (y_assign rfl rfl rfl (y_assign rfl rfl rfl (s_nil (hK199 _ _ (c_seq fun K217 hK217 => (c_cut (γ := Nat) (fun zz => [(1, .int .u8 p), (7, .pointer (some ⟨b7, 0, none⟩)), (8, .slice al l.length cl), (9, .int .i64 at1), (11, .bool (decide (brokP (smR u) (srtS (l.map shtS)) = 0))), (191, .bool false)]) (fun zz w => Upd (fun _ => False) w213 w) (fun K219 hK219 => ?_) ?_)))))))))))))
 ·
  refine c_region (t_move rfl rfl rfl (t_cmp rfl rfl rfl rfl rfl (t_samehd (v := .bool false) rfl (t_move rfl rfl rfl (t_move rfl rfl rfl (t_cmp rfl rfl rfl rfl rfl (t_move rfl rfl rfl (t_splitp 171 rfl (fun g171 => ?_) (fun g171 => ?_)))))))))
  ·
   refine t_move rfl rfl rfl (t_cmp rfl rfl rfl rfl rfl (t_same 173 (v := .bool false) rfl (congrArg Value.bool (decide_eq_false (by have := hm1 g171; omega))) (t_pick_t rfl rfl rfl rfl (t_pick_f rfl rfl rfl rfl (t_move rfl rfl rfl (t_move rfl rfl rfl (t_move rfl rfl rfl (t_splitp 178 rfl (fun g178 => ?_) (fun g178 => ?_)))))))))
   ·
    refine t_move rfl rfl rfl (t_notp rfl rfl rfl (t_same 180 (v := .bool false) rfl (congrArg Value.bool (decide_eq_false (fun h => h (hm2 g178)))) (t_pick_t rfl rfl rfl rfl (t_pick_f rfl rfl rfl rfl (t_move rfl rfl rfl (t_move rfl rfl rfl (t_cmp rfl rfl rfl rfl rfl (t_move rfl rfl rfl (t_splitp 186 rfl (fun g186 => ?_) (fun g186 => ?_))))))))))
    ·
     refine t_move rfl rfl rfl (t_move rfl rfl rfl (t_cmp rfl rfl rfl rfl rfl (t_same 189 (v := .bool false) rfl (congrArg Value.bool (decide_eq_false (by rcases hm3 g186 with h | h <;> omega))) (t_pick_t rfl rfl rfl rfl (t_pick_f rfl rfl rfl rfl (t_nil' ?_))))))
     exact hK219 0 _ _ ⟨rfl, rfl, rfl, rfl, rfl, rfl, trivial⟩ (Upd.refl _ _)
    refine t_skip rfl rfl rfl (t_skip rfl rfl rfl (t_skip rfl rfl rfl (t_pick_f rfl rfl rfl rfl (t_pick_f rfl rfl rfl rfl (t_nil' ?_)))))
    exact hK219 0 _ _ ⟨rfl, rfl, rfl, rfl, rfl, rfl, trivial⟩ (Upd.refl _ _)
   refine t_skip rfl rfl rfl (t_skip rfl rfl rfl (t_pick_f rfl rfl rfl rfl (t_pick_f rfl rfl rfl rfl (t_move rfl rfl rfl (t_move rfl rfl rfl (t_cmp rfl rfl rfl rfl rfl (t_move rfl rfl rfl (t_splitp 186 rfl (fun g186 => ?_) (fun g186 => ?_)))))))))
   ·
    refine t_move rfl rfl rfl (t_move rfl rfl rfl (t_cmp rfl rfl rfl rfl rfl (t_same 189 (v := .bool false) rfl (congrArg Value.bool (decide_eq_false (by rcases hm3 g186 with h | h <;> omega))) (t_pick_t rfl rfl rfl rfl (t_pick_f rfl rfl rfl rfl (t_nil' ?_))))))
    exact hK219 0 _ _ ⟨rfl, rfl, rfl, rfl, rfl, rfl, trivial⟩ (Upd.refl _ _)
   refine t_skip rfl rfl rfl (t_skip rfl rfl rfl (t_skip rfl rfl rfl (t_pick_f rfl rfl rfl rfl (t_pick_f rfl rfl rfl rfl (t_nil' ?_)))))
   exact hK219 0 _ _ ⟨rfl, rfl, rfl, rfl, rfl, rfl, trivial⟩ (Upd.refl _ _)
  refine t_skip rfl rfl rfl (t_skip rfl rfl rfl (t_pick_f rfl rfl rfl rfl (t_pick_f rfl rfl rfl rfl (t_move rfl rfl rfl (t_move rfl rfl rfl (t_move rfl rfl rfl (t_splitp 178 rfl (fun g178 => ?_) (fun g178 => ?_))))))))
  ·
   refine t_move rfl rfl rfl (t_notp rfl rfl rfl (t_same 180 (v := .bool false) rfl (congrArg Value.bool (decide_eq_false (fun h => h (hm2 g178)))) (t_pick_t rfl rfl rfl rfl (t_pick_f rfl rfl rfl rfl (t_move rfl rfl rfl (t_move rfl rfl rfl (t_cmp rfl rfl rfl rfl rfl (t_move rfl rfl rfl (t_splitp 186 rfl (fun g186 => ?_) (fun g186 => ?_))))))))))
   ·
    refine t_move rfl rfl rfl (t_move rfl rfl rfl (t_cmp rfl rfl rfl rfl rfl (t_same 189 (v := .bool false) rfl (congrArg Value.bool (decide_eq_false (by rcases hm3 g186 with h | h <;> omega))) (t_pick_t rfl rfl rfl rfl (t_pick_f rfl rfl rfl rfl (t_nil' ?_))))))
    exact hK219 0 _ _ ⟨rfl, rfl, rfl, rfl, rfl, rfl, trivial⟩ (Upd.refl _ _)
   refine t_skip rfl rfl rfl (t_skip rfl rfl rfl (t_skip rfl rfl rfl (t_pick_f rfl rfl rfl rfl (t_pick_f rfl rfl rfl rfl (t_nil' ?_)))))
   exact hK219 0 _ _ ⟨rfl, rfl, rfl, rfl, rfl, rfl, trivial⟩ (Upd.refl _ _)
  refine t_skip rfl rfl rfl (t_skip rfl rfl rfl (t_pick_f rfl rfl rfl rfl (t_pick_f rfl rfl rfl rfl (t_move rfl rfl rfl (t_move rfl rfl rfl (t_cmp rfl rfl rfl rfl rfl (t_move rfl rfl rfl (t_splitp 186 rfl (fun g186 => ?_) (fun g186 => ?_)))))))))
  ·
   refine t_move rfl rfl rfl (t_move rfl rfl rfl (t_cmp rfl rfl rfl rfl rfl (t_same 189 (v := .bool false) rfl (congrArg Value.bool (decide_eq_false (by rcases hm3 g186 with h | h <;> omega))) (t_pick_t rfl rfl rfl rfl (t_pick_f rfl rfl rfl rfl (t_nil' ?_))))))
   exact hK219 0 _ _ ⟨rfl, rfl, rfl, rfl, rfl, rfl, trivial⟩ (Upd.refl _ _)
  refine t_skip rfl rfl rfl (t_skip rfl rfl rfl (t_skip rfl rfl rfl (t_pick_f rfl rfl rfl rfl (t_pick_f rfl rfl rfl rfl (t_nil' ?_)))))
  exact hK219 0 _ _ ⟨rfl, rfl, rfl, rfl, rfl, rfl, trivial⟩ (Upd.refl _ _)
 intro zz w220 u221
 have zu221 := u221.size
 have E222 := (((((((((((((((((((E11.nx u15).nx u87).nx u94).nx u99).nx u104).nx u111).nx u116).nx u126).nx u143).nx u170).next u173 (fun i hi h => by omega)).nx u178).next u184 (fun i hi h => by omega)).next u188 (fun i hi h => by omega)).next u192 (fun i hi h => by omega)).next u196 (fun i hi h => by omega)).nx u202).nx u209).nx u214).nx u221
 refine c_cond_f rfl (c_skip (hK217 _ _ (c_seq fun K223 hK223 => (c_seq fun K224 hK224 => (c_region (t_move rfl rfl rfl (t_len Try.underlying30 rfl rfl rfl rfl (t_cmp rfl rfl rfl rfl rfl (t_nil' (hK224 _ _ (c_condp rfl (fun g194 => ?_) (fun g194 => ?_))))))))))))
 ·
  refine c_seq fun K225 hK225 => (c_region (t_call own13 rfl rfl rfl rfl (known_c _) (fun v226 w227 r229 => ?_)))
  obtain ⟨rfl, u228⟩ := r229
  have zu228 := u228.size
  refine t_assign rfl rfl rfl (t_nil' (hK225 _ _ (c_ret (f_ret1 (v := .bool true) Try.results5 rfl ?_))))
  exact ⟨rfl, (E222.nx u228)⟩
 obtain ⟨j, hj⟩ : ∃ j : Nat, (p % (l.length : Int)) = (j : Int) ∧ j < l.length := ⟨(p % (l.length : Int)).toNat, by have := Int.emod_nonneg p (show (l.length : Int) ≠ 0 by omega); omega, by have h1 := Int.emod_nonneg p (show (l.length : Int) ≠ 0 by omega); have h2 := Int.emod_lt_of_pos p (show (0 : Int) < l.length by omega); omega⟩
 refine c_skip (hK223 _ _ (c_seq fun K231 hK231 => (c_region (t_move rfl rfl rfl (t_conv Try.underlying5 Try.underlying3 rfl rfl rfl (IntWalk.i64_in _ (by omega)) (t_move rfl rfl rfl (t_len Try.underlying30 rfl rfl rfl rfl (t_rem rfl rfl rfl rfl (by omega) (by omega) (t_same 200 (v := .int .i64 (j : Int)) rfl (congrArg (Value.int .i64) hj.1) (t_assign rfl rfl rfl (t_nil' (hK231 _ _ (c_seq fun K232 hK232 => (c_drawnM follows (fun _ => False) (.look 0 (.look 1 (.look 2 (.look 4 (.look 5 (.look 6 (.look 7 (.act 3 (.act 8 (.look 9 .done) .stop) .stop)))))))) (by kernel_rfl) fun w233 u234 => ?_))))))))))))))
 have zu234 := u234.size
 refine y_move rfl rfl rfl (y_move rfl rfl rfl (y_sliceTo (j) Try.underlying30 Try.sizeOf40 rfl rfl rfl rfl rfl (by omega) (y_same 203 (v := .slice (subAddr al cl 0 4) ((l.take j).length) cl) rfl (by rw [List.length_take, Nat.min_eq_left (by omega)]) (y_move rfl rfl rfl (y_move rfl rfl rfl (y_ari rfl rfl rfl rfl rfl (by omega) (y_sliceFrom (j + 1) Try.underlying30 Try.sizeOf40 rfl rfl rfl rfl (by omega) (by omega) (by omega) (y_same 208 (v := .slice (subAddr al cl (j + 1) 4) ((l.drop (j + 1)).length) (cl - (j + 1))) rfl (by rw [List.length_drop]) (s_do ?_)))))))))
 have D237 := ((((D206.keep u209 (fun _ h => h)).keep u214 (fun _ h => h)).keep u221 (fun _ h => h)).keep u234 (fun _ h => h))
 refine t_call own11 rfl rfl rfl rfl (duties_c (l.take j) (subAddr al cl 0 4) gl 0 cl _ (Sl.subTo (D237.sl (fun _ => rfl)) cl j (by omega)) (by rw [List.length_take]; omega) (by omega)) (fun v238 w239 r241 => ?_)
 obtain ⟨⟨aoY236, gY236, cY236, rfl, haY236⟩, u240⟩ := r241
 have zu240 := u240.size
 have lt_gY236 := haY236.lt
 refine s_next ((Upd.refl _ _).nx u240) (s_do ?_)
 have D243 := (D237.keep u240 (fun _ h => h))
 refine t_appendAll (enc := encDty) (z := .agg #[.int .i64 0, .int .i64 0, .int .i64 0, .int .i64 0]) (bytes := 32) (k := 4) (base := w233.heap.size) (xs := (l.take j)) (ys := (l.drop (j + 1))) Try.underlying30 (by kernel_rfl) rfl (by decide) (fun _ => rfl) (by intro x; simp [encDty, Value.oneCell']) rfl rfl rfl rfl haY236 (Sl.from_ (D243.sl (fun _ => rfl)) cl (j + 1) (by omega)) (by omega) (by rw [List.length_take]; omega) (by rw [List.length_drop]; omega) (by decide) (fun ao244 gb245 cp246 w247 A248 u249 gegb245 lngb245 => ?_)
 have zu249 := u249.size
 have lt_gb245 := A248.lt
 refine s_next ((Upd.refl _ _).next u249 (fun i hi (h : (i = gY236 ∧ w233.heap.size ≤ i)) => show w233.heap.size ≤ i ∨ (False) by first | omega | exact .inr h)) (y_assign rfl rfl rfl (s_nil (hK232 _ _ (c_seq fun K251 hK251 => (c_region ?_)))))
 have B252 := ((((((((((((((B166.kx u170).keep u173 (by omega)).kx u178).keep u184 (by omega)).keep u188 (by omega)).keep u192 (by omega)).keep u196 (by omega)).kx u202).kx u209).kx u214).kx u221).kx u234).kx u240).keep u249 (by omega))
 refine t_loadN (vs := [.int .i64 ((smR u).rest), .int .i64 ((smR u).span), .int .i64 ((smR u).work), .int .i64 ((smR u).week), .int .i64 ((smR u).ww)]) Try.isAgg28 Try.sizeOf28 rfl rfl rfl (B252.at.sub 0 5) rfl (t_move rfl rfl rfl (t_call own10 rfl rfl rfl rfl (Rested_v ao244 gb245 0 cp246 _ (A248.sl (fun _ => rfl)) (chk_of hr (by have := fewD_len (l := l) (j := j); unfold fewD at this; omega) (fewD_ok hod)) (by omega)) (fun v253 w254 r256 => ?_)))
 obtain ⟨⟨at3, rule3, rfl, hR3⟩, u255⟩ := r256
 have zu255 := u255.size
 have E257 := (((E222.nx u234).nx u240).next u249 (fun i hi h => by omega)).nx u255
 obtain ⟨hf1, hf2⟩ := rest_fewer hr hod hj.2 hR1 (show RestR (smR u) (fewD l j) at3 rule3 from hR3)
 refine t_move rfl rfl rfl (t_extract rfl rfl rfl rfl (t_extract rfl rfl rfl rfl (t_extract rfl rfl rfl rfl (t_extract rfl rfl rfl rfl (t_assign rfl rfl rfl (t_assign rfl rfl rfl (t_assign rfl rfl rfl (t_nil' (hK251 _ _ (c_seq fun K258 hK258 => (c_region (t_move rfl rfl rfl (t_cmp rfl rfl rfl rfl rfl (t_samehd (v := .bool true) rfl (t_move rfl rfl rfl (t_move rfl rfl rfl (t_cmp rfl rfl rfl rfl rfl (t_move rfl rfl rfl (t_splitp 223 rfl (fun g223 => ?_) (fun g223 => ?_))))))))))))))))))))
 ·
  refine t_skip rfl rfl rfl (t_skip rfl rfl rfl (t_pick_t rfl rfl rfl rfl (t_pick_t rfl rfl rfl rfl (t_move rfl rfl rfl (t_move rfl rfl rfl (t_notp rfl rfl rfl (t_move rfl rfl rfl (t_splitp 231 rfl (fun g231 => ?_) (fun g231 => ?_)))))))))
  ·
   refine t_skip rfl rfl rfl (t_pick_t rfl rfl rfl rfl (t_pick_t rfl rfl rfl rfl (t_move rfl rfl rfl (t_call own13 rfl rfl rfl rfl (known_c _) (fun v259 w260 r262 => ?_)))))
   obtain ⟨rfl, u261⟩ := r262
   have zu261 := u261.size
   refine t_pick_t rfl rfl rfl rfl (t_assign rfl rfl rfl (t_nil' (hK258 _ _ (c_ret (f_ret1 (v := .bool true) Try.results5 rfl ?_)))))
   exact ⟨rfl, (E257.nx u261)⟩
  refine t_move rfl rfl rfl (t_same 232 (v := .bool true) rfl (congrArg Value.bool (decide_eq_true (hf2 (Decidable.not_not.1 g231)))) (t_pick_f rfl rfl rfl rfl (t_pick_t rfl rfl rfl rfl (t_move rfl rfl rfl (t_call own13 rfl rfl rfl rfl (known_c _) (fun v264 w265 r267 => ?_))))))
  obtain ⟨rfl, u266⟩ := r267
  have zu266 := u266.size
  refine t_pick_t rfl rfl rfl rfl (t_assign rfl rfl rfl (t_nil' (hK258 _ _ (c_ret (f_ret1 (v := .bool true) Try.results5 rfl ?_)))))
  exact ⟨rfl, (E257.nx u266)⟩
 refine t_move rfl rfl rfl (t_cmp rfl rfl rfl rfl rfl (t_same 225 (v := .bool true) rfl (congrArg Value.bool (decide_eq_true (hf1 (by omega)))) (t_pick_f rfl rfl rfl rfl (t_pick_t rfl rfl rfl rfl (t_move rfl rfl rfl (t_move rfl rfl rfl (t_notp rfl rfl rfl (t_move rfl rfl rfl (t_splitp 231 rfl (fun g231 => ?_) (fun g231 => ?_))))))))))
 ·
  refine t_skip rfl rfl rfl (t_pick_t rfl rfl rfl rfl (t_pick_t rfl rfl rfl rfl (t_move rfl rfl rfl (t_call own13 rfl rfl rfl rfl (known_c _) (fun v269 w270 r272 => ?_)))))
  obtain ⟨rfl, u271⟩ := r272
  have zu271 := u271.size
  refine t_pick_t rfl rfl rfl rfl (t_assign rfl rfl rfl (t_nil' (hK258 _ _ (c_ret (f_ret1 (v := .bool true) Try.results5 rfl ?_)))))
  exact ⟨rfl, (E257.nx u271)⟩
 refine t_move rfl rfl rfl (t_same 232 (v := .bool true) rfl (congrArg Value.bool (decide_eq_true (hf2 (Decidable.not_not.1 g231)))) (t_pick_f rfl rfl rfl rfl (t_pick_t rfl rfl rfl rfl (t_move rfl rfl rfl (t_call own13 rfl rfl rfl rfl (known_c _) (fun v274 w275 r277 => ?_))))))
 obtain ⟨rfl, u276⟩ := r277
 have zu276 := u276.size
 refine t_pick_t rfl rfl rfl rfl (t_assign rfl rfl rfl (t_nil' (hK258 _ _ (c_ret (f_ret1 (v := .bool true) Try.results5 rfl ?_)))))
 exact ⟨rfl, (E257.nx u276)⟩

end Go.Proofs.Ytagmodjadmecdaa
