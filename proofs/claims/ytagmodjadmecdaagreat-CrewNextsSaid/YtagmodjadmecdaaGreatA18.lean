/-
  The statements about crews: their small functions. Conditions: none.
-/
import Derived.Test.YtagmodjadmecdaaGreatA15
import Derived.Test.YtagmodjadmecdaaGreatA16
namespace Go.Proofs.YtagmodjadmecdaaGreat
open Go Go.RowKit

/-- Five, and four, small numbers. -/
structure U5 where
  a : Int
  b : Int
  c : Int
  d : Int
  e : Int
instance : Inhabited U5 := ⟨⟨default, default, default, default, default⟩⟩
structure U4 where
  a : Int
  b : Int
  c : Int
  d : Int
instance : Inhabited U4 := ⟨⟨default, default, default, default⟩⟩
def okU5 (u : U5) : Prop := (0 ≤ u.a ∧ u.a ≤ 255) ∧ (0 ≤ u.b ∧ u.b ≤ 255) ∧ (0 ≤ u.c ∧ u.c ≤ 255) ∧ (0 ≤ u.d ∧ u.d ≤ 255) ∧ (0 ≤ u.e ∧ u.e ≤ 255)
def okU4 (u : U4) : Prop := (0 ≤ u.a ∧ u.a ≤ 255) ∧ (0 ≤ u.b ∧ u.b ≤ 255) ∧ (0 ≤ u.c ∧ u.c ≤ 255) ∧ (0 ≤ u.d ∧ u.d ≤ 255)
def encU4 (x : U4) : List Value := [.int .u8 x.a, .int .u8 x.b, .int .u8 x.c, .int .u8 x.d]
/-- Rules and duties out of small numbers. -/
def smR (u : U5) : Rul := ⟨1 + u.a % 80, 1 + u.b, 1 + u.c, 1 + 2 * u.d, 1 + 2 * u.e⟩
def dOf (x : U4) : Dty := ⟨2 * x.a, 2 * x.a + x.b % 30, (2 * x.a + x.b % 30) + x.c % 40, ((2 * x.a + x.b % 30) + x.c % 40) + x.d % 30⟩
theorem smR_ok {u : U5} (h : okU5 u) : okRul (smR u) = true := by
  unfold okU5 at h
  unfold okRul; rw [decide_eq_true_eq]; simp only [smR]
  omega
theorem dOf_rng {x : U4} (h : okU4 x) : (0 ≤ (dOf x).bl ∧ (dOf x).bl ≤ 510) ∧ ((dOf x).bl ≤ (dOf x).bh ∧ (dOf x).bh ≤ 539) ∧ ((dOf x).bh ≤ (dOf x).el ∧ (dOf x).el ≤ 578) ∧ ((dOf x).el ≤ (dOf x).eh ∧ (dOf x).eh ≤ 607) := by
  unfold okU4 at h
  simp only [dOf]
  omega
theorem dOf_ok {x : U4} (h : okU4 x) : okDty (dOf x) = true := by
  have := dOf_rng h
  simp only [okDty, decide_eq_true_eq]; omega
def dsOf (xs : List U4) (m : Nat) : List Dty := (xs.take m).map dOf
theorem dsOf_len (xs : List U4) (m : Nat) : (dsOf xs m).length ≤ m := by unfold dsOf; rw [List.length_map, List.length_take]; omega
theorem dsOf_mem {xs : List U4} {m : Nat} (h : ∀ x ∈ xs, okU4 x) {d : Dty} (hd : d ∈ dsOf xs m) : ∃ x, okU4 x ∧ d = dOf x := by
  obtain ⟨x, hx, rfl⟩ := List.mem_map.1 hd; exact ⟨x, h x (List.mem_of_mem_take hx), rfl⟩
theorem dsOf_ok {xs : List U4} {m : Nat} (h : ∀ x ∈ xs, okU4 x) : ∀ d ∈ dsOf xs m, okDty d = true := fun d hd => by
  obtain ⟨x, hx, rfl⟩ := dsOf_mem h hd; exact dOf_ok hx
theorem chk_of {r : Rul} {l : List Dty} (hr : okRul r = true) (hl : l.length ≤ 20) (h : ∀ d ∈ l, okDty d = true) : chkRD r l = 0 := by
  unfold chkRD chkR chkD
  rw [if_pos hr, if_neg (by decide), if_neg (by omega), if_neg]
  intro hc
  obtain ⟨d, hd, hq⟩ := List.any_eq_true.1 hc
  rw [h d hd] at hq; cases hq
theorem ok_snoc {l : List Dty} {d : Dty} (h : ∀ d ∈ l, okDty d = true) (hd : okDty d = true) : ∀ x ∈ l ++ [d], okDty x = true := fun x hx => by
  rcases List.mem_append.1 hx with hx | hx
  · exact h x hx
  · rw [List.mem_singleton.1 hx]; exact hd
theorem lng_snoc (l : List Dty) (d : Dty) : srtS ((l ++ [d]).map lngS) = insS (lngS d) (srtS (l.map lngS)) := by rw [ins_srtS, List.map_append]; rfl

theorem own9 : Own Tryz.prog 9 := ⟨Tryz.f9, Tryz.func9, by kernel_rfl, by kernel_rfl⟩

theorem duties_c (l : List Dty) (al : Option Addr) (bl ol cl : Nat) (w0 : World) (hl : Sl encDty 4 w0 al bl ol l) (hll : l.length ≤ 1000000) (hpos : 0 < w0.heap.size) :
    CallsV Tryz.prog 9 [.slice al l.length cl] w0 (fun v w' => (∃ ao g cp, v = .slice ao (List.length l) cp ∧ Acc encDty 4 37 w0.heap.size w' ao g cp l) ∧ Ext w0 w') := by
 refine f_enter (N := 6) Tryz.func9 rfl rfl rfl (c_seq fun K1 hK1 => (c_region (t_assign rfl rfl rfl (t_nil' (hK1 _ _ (c_seq fun K2 hK2 => (c_region (t_bslice (ps := []) (cs := []) (e := 37) rfl rfl ⟨rfl, rfl⟩ (fun w => by kernel_rfl) (fun bk3 w4 ebk3 sbk3 B5 u6 => ?_)))))))))
 have zu6 := u6.size
 have E7 := (Upd.refl (fun _ => False) w0).nx u6
 refine t_move rfl rfl rfl (t_copy (enc := encDty) (z := .agg #[.int .i64 0, .int .i64 0, .int .i64 0, .int .i64 0]) (bytes := 32) (k := 4) (ys := l) Tryz.underlying24 (by kernel_rfl) rfl (by decide) (fun _ => rfl) (by intro x; simp [encDty, Value.oneCell']) rfl rfl rfl rfl B5 (hl.keep E7 (fun _ h => h)) (by omega) (by decide) (fun ao8 gb9 cp10 w11 A12 u13 gegb9 => ?_))
 have zu13 := u13.size
 have lt_gb9 := A12.lt
 refine t_assign rfl rfl rfl (t_nil' (hK2 _ _ (c_ret (f_ret1 (v := .slice ao8 l.length cp10) Tryz.results9 rfl ?_))))
 obtain ⟨g9, ha9⟩ := Acc.lower (base' := w0.heap.size) A12 (by omega) hpos
 exact ⟨⟨ao8, g9, cp10, rfl, ha9⟩, (E7.next u13 (fun i hi h => by omega))⟩


theorem Rested_v {r : Rul} {l : List Dty} (al : Option Addr) (bl ol cl : Nat) (w0 : World) (hl : Sl encDty 4 w0 al bl ol l) (hc : chkRD r l = 0) (hpos : 0 < w0.heap.size) :
    CallsV Tryz.prog 12 [.agg #[.int .i64 r.rest, .int .i64 r.span, .int .i64 r.work, .int .i64 r.week, .int .i64 r.ww], .slice al l.length cl] w0 (fun v w' => (∃ at_ rule, v = .tuple #[.int .i64 at_, .int .i64 rule, .bool (decide (brokP r (srtS (l.map shtS)) = 0)), .int .i64 0] ∧ RestR r l at_ rule) ∧ Ext w0 w') :=
  (Rested_c r l al bl ol cl w0 hl (by have := (chk_ok hc).2.1; omega) hpos).mono fun v w' ⟨⟨a, rule, pos, e, h1, h2⟩, u⟩ => by
    rcases h2 with ⟨h2, _⟩ | ⟨_, rfl, h3, rfl⟩
    · exact absurd hc h2
    · exact ⟨⟨a, rule, h1, h3⟩, u⟩
theorem Shifts_v {r : Rul} {l : List Dty} (al : Option Addr) (bl ol cl : Nat) (w0 : World) (hl : Sl encDty 4 w0 al bl ol l) (hc : chkRD r l = 0) (hpos : 0 < w0.heap.size) :
    CallsV Tryz.prog 11 [.agg #[.int .i64 r.rest, .int .i64 r.span, .int .i64 r.work, .int .i64 r.week, .int .i64 r.ww], .slice al l.length cl] w0 (fun v w' => (∃ ao g cp sh, v = .tuple #[.slice ao (List.length sh) cp, .int .i64 0] ∧ Sl encShf 3 w' ao g 0 sh ∧ sh = shiftsP r (srtS (l.map lngS))) ∧ Ext w0 w') :=
  (Shifts_c r l al bl ol cl w0 hl (by have := (chk_ok hc).2.1; omega) hpos).mono fun v w' ⟨⟨ao, g, cp, sh, e, h1, h2, h3⟩, u⟩ => by
    rcases h3 with ⟨h3, _⟩ | ⟨_, rfl, h5⟩
    · exact absurd hc h3
    · exact ⟨⟨ao, g, cp, sh, h1, h2, h5⟩, u⟩

end Go.Proofs.YtagmodjadmecdaaGreat
