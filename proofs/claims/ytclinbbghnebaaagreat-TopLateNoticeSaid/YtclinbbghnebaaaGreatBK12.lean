/-
  Part 12 of the proof: contracts and plain laws. Conditions: none.
-/
import Derived.Shelf.SlSortCmp.WholeK
import Derived.Shelf.SlSortCmp.NoneTotal
import Derived.Ground.SlsfProg
import Derived.Test.YtclinbbghnebaaaGreatProg
import Derived.Test.YtclinbbghnebaaaGreatBK11
namespace Go.Proofs.YtclinbbghnebaaaGreat
open Go Go.RowKit Go.Proofs.Tryz
set_option maxRecDepth 10000
theorem mulr {a b A B : Int} (ha : 0 ≤ a ∧ a ≤ A) (hb : 0 ≤ b ∧ b ≤ B) : 0 ≤ a * b ∧ a * b ≤ A * B :=
  ⟨Int.mul_nonneg ha.1 hb.1, Int.mul_le_mul ha.2 hb.2 hb.1 (Int.le_trans ha.1 ha.2)⟩
theorem mull {a b A B : Int} (ha : A ≤ a) (hb : B ≤ b) (hA : 0 ≤ A) (hB : 0 ≤ B) : A * B ≤ a * b := Int.mul_le_mul ha hb hB (Int.le_trans hA ha)
def wayN (m p g s : Int) : Int := s * 4320 * p * g + m * 1000 * s * s
def wayD (p g : Int) : Int := 2592 * p * g
def mostV (m p g s : Int) : Int := (wayN m p g s + wayD p g - 1) / wayD p g
def okBrake (m p lo hi : Int) : Bool := decide ((0 ≤ m ∧ m ≤ 400000) ∧ (1 ≤ p ∧ p ≤ 20000) ∧ lo ≤ hi ∧ (1 ≤ lo ∧ lo ≤ 1000) ∧ (1 ≤ hi ∧ hi ≤ 1000))
structure RB (m p g s : Int) : Prop where
  m : 0 ≤ m ∧ m ≤ 400000
  p : 1 ≤ p ∧ p ≤ 20000
  g : 1 ≤ g ∧ g ≤ 1000
  s : 0 ≤ s ∧ s ≤ 500
theorem RB.wayD {m p g s : Int} (h : RB m p g s) : 2592 ≤ wayD p g ∧ wayD p g ≤ 51840000000 := by
  have h1 := mulr (a := 2592 * p) (A := 51840000) (b := g) (B := 1000) (by have := h.p; omega) (by have := h.g; omega)
  have h2 := mull (a := 2592 * p) (A := 2592) (b := g) (B := 1) (by have := h.p; omega) (by have := h.g; omega) (by decide) (by decide)
  unfold Proofs.YtclinbbghnebaaaGreat.wayD; omega
theorem RB.wayN {m p g s : Int} (h : RB m p g s) : 0 ≤ wayN m p g s ∧ wayN m p g s ≤ 1000000000000000 := by
  have h1 := mulr (a := s * 4320) (A := 2160000) (b := p) (B := 20000) (by have := h.s; omega) (by have := h.p; omega)
  have h2 := mulr (a := s * 4320 * p) (A := 43200000000) (b := g) (B := 1000) (by omega) (by have := h.g; omega)
  have h3 := mulr (a := m * 1000) (A := 400000000) (b := s) (B := 500) (by have := h.m; omega) (by have := h.s; omega)
  have h4 := mulr (a := m * 1000 * s) (A := 200000000000) (b := s) (B := 500) (by omega) (by have := h.s; omega)
  unfold Proofs.YtclinbbghnebaaaGreat.wayN; omega
theorem brakeOk_c (m p lo hi : Int) (w0 : World) :
    CallsV Tryz.prog 105 [.agg #[.int .i64 m, .int .i64 p, .int .i64 lo, .int .i64 hi]] w0 (fun v w' => v = .bool (okBrake m p lo hi) ∧ Ext w0 w') := by
 refine f_n func105 ?_
 refine go ?_
 refine x_b fun bk2 w3 ebk2 sbk2 B4 u5 => ?_
 refine go ?_
 refine x_l fun bk8 w9 ebk8 sbk8 B10 u11 => ?_
 refine x_c func28 rfl rfl (within1_vV 0 400000 m _ _ _ B10) ?_
 rintro _ w14 ⟨rfl, u15⟩ zu15
 refine go ?_
 refine t_splitp 7 rfl (fun g7 => ?_) (fun g7 => ?_)
 ·
  refine go ?_
  refine x_l fun bk18 w19 ebk18 sbk18 B20 u21 => ?_
  refine x_c func28 rfl rfl (within1_vV 1 20000 p _ _ _ B20) ?_
  rintro _ w24 ⟨rfl, u25⟩ zu25
  refine go ?_
  refine t_splitp 13 rfl (fun g13 => ?_) (fun g13 => ?_)
  ·
   refine go ?_
   refine x_c func85 rfl rfl (isValid_c 1 1000 lo hi _) ?_
   rintro _ w29 ⟨rfl, u30⟩ zu30
   refine go ?_
   refine f_1 results105 ?_
   exact ⟨by simp [okBrake, *], u_d⟩
  refine go ?_
  refine f_1 results105 ?_
  exact ⟨by simp [okBrake, *], u_d⟩
 refine go ?_
 refine f_1 results105 ?_
 exact ⟨by simp [okBrake, *], u_d⟩
theorem way_c (m p lo hi s g : Int) (w0 : World) (h : RB m p g s) :
    CallsV Tryz.prog 106 [.agg #[.int .i64 m, .int .i64 p, .int .i64 lo, .int .i64 hi], .int .i64 s, .int .i64 g] w0 (fun v w' => v = .tuple #[.int .i64 (wayN m p g s), .int .i64 (wayD p g)] ∧ Ext w0 w') := by
 have q1 := h.m
 have q2 := h.p
 have q3 := h.g
 have q4 := h.s
 have h0 := mulr (a := 2592 * p) (A := 51840000) (b := g) (B := 1000) (by omega) (by omega)
 have h1 := mulr (a := s * 4320) (A := 2160000) (b := p) (B := 20000) (by omega) (by omega)
 have h2 := mulr (a := s * 4320 * p) (A := 43200000000) (b := g) (B := 1000) (by omega) (by omega)
 have h3 := mulr (a := m * 1000) (A := 400000000) (b := s) (B := 500) (by omega) (by omega)
 have h4 := mulr (a := m * 1000 * s) (A := 200000000000) (b := s) (B := 500) (by omega) (by omega)
 refine f_n func106 ?_
 refine go ?_
 refine x_b fun bk2 w3 ebk2 sbk2 B4 u5 => ?_
 refine go ?_
 refine f_ret2 (v1 := .int .i64 ((((s * 4320) * p) * g) + (((m * 1000) * s) * s))) (v2 := .int .i64 ((2592 * p) * g)) results106 rfl rfl ?_
 exact ⟨rfl, u_d⟩
theorem most_c (m p lo hi s : Int) (w0 : World) (h : RB m p lo s) :
    CallsV Tryz.prog 107 [.agg #[.int .i64 m, .int .i64 p, .int .i64 lo, .int .i64 hi], .int .i64 s] w0 (fun v w' => v = .int .i64 (mostV m p lo s) ∧ Ext w0 w') := by
 have h1 := h.wayN
 have h2 := h.wayD
 refine f_n func107 ?_
 refine go ?_
 refine x_b fun bk2 w3 ebk2 sbk2 B4 u5 => ?_
 refine go ?_
 refine x_c func106 rfl rfl (way_c m p lo hi s lo _ h) ?_
 rintro _ w9 ⟨rfl, u10⟩ zu10
 refine go ?_
 refine t_quo rfl rfl rfl rfl (by omega) (by omega) ?_
 refine go ?_
 refine f_1 results107 ?_
 exact ⟨rfl, u_d⟩
def okStop (m p lo hi s : Int) : Bool := okBrake m p lo hi && decide (0 ≤ s ∧ s ≤ 400)
theorem okBrake_rb {m p lo hi s : Int} (h : okBrake m p lo hi = true) (hs : 0 ≤ s ∧ s ≤ 500) : RB m p lo s ∧ RB m p hi s := by
  unfold okBrake at h; rw [decide_eq_true_eq] at h; exact ⟨⟨h.1, h.2.1, by omega, hs⟩, ⟨h.1, h.2.1, by omega, hs⟩⟩
def StopE (m p lo hi s : Int) : Int := if okStop m p lo hi s then 0 else 3
def StopB (m p lo hi s : Int) : Bnd := if okStop m p lo hi s then ⟨wayN m p hi s / wayD p hi, mostV m p lo s⟩ else ⟨0, 0⟩
theorem Stop_c (m p lo hi s : Int) (w0 : World) :
    CallsV Tryz.prog 41 [.int .i64 m, .int .i64 p, .agg #[.int .i64 lo, .int .i64 hi], .int .i64 s] w0 (fun v w' => v = .tuple #[.agg #[.int .i64 (StopB m p lo hi s).lo, .int .i64 (StopB m p lo hi s).hi], .int .i64 (StopE m p lo hi s)] ∧ Ext w0 w') := by
 refine f_n func41 ?_
 refine go ?_
 refine x_b fun bk2 w3 ebk2 sbk2 B4 u5 => ?_
 refine x_n fun bk7 w8 ebk7 sbk7 B9 u10 => ?_
 refine go ?_
 refine x_n fun bk13 w14 ebk13 sbk13 B15 u16 => ?_
 refine x_s fun w18 sw18 B20 u19 => ?_
 refine go ?_
 refine x_c func105 rfl rfl (brakeOk_c m p lo hi _) ?_
 rintro _ w25 ⟨rfl, u26⟩ zu26
 refine go ?_
 refine t_split 20 rfl (fun g20 => ?_) (fun g20 => ?_)
 ·
  refine go ?_
  refine x_s fun w30 sw30 B32 u31 => ?_
  refine go ?_
  refine f_ret2 (v1 := .agg #[.int .i64 0, .int .i64 0]) (v2 := .int .i64 3) results41 ⟨_, _, rfl, run_loadVarN (vs := [.int .i64 0, .int .i64 0]) isAgg28 sizeOf28 rfl (B32.at.sub 0 2)⟩ rfl ?_
  exact ⟨by simp_all [StopB, StopE, okStop], u_d⟩
 refine go ?_
 refine x_l fun bk34 w35 ebk34 sbk34 B36 u37 => ?_
 refine x_c func28 rfl rfl (within1_vV 0 400 s _ _ _ B36) ?_
 rintro _ w40 ⟨rfl, u41⟩ zu41
 refine go ?_
 refine q_p (fun g25 => ?_) fun g25 => ?_
 ·
  refine go ?_
  refine x_s fun w45 sw45 B47 u46 => ?_
  refine go ?_
  refine f_ret2 (v1 := .agg #[.int .i64 0, .int .i64 0]) (v2 := .int .i64 3) results41 ⟨_, _, rfl, run_loadVarN (vs := [.int .i64 0, .int .i64 0]) isAgg28 sizeOf28 rfl (B47.at.sub 0 2)⟩ rfl ?_
  exact ⟨by simp only [StopB, StopE, okStop, decide_eq_false g25]; simp, u_d⟩
 refine go ?_
 have hb : okBrake m p lo hi = true := by simpa using g20
 obtain ⟨r1, r2⟩ := okBrake_rb (s := s) hb (by omega)
 have h1 := r2.wayN
 have h2 := r2.wayD
 refine go ?_
 refine x_c func106 rfl rfl (way_c m p lo hi s hi _ r2) ?_
 rintro _ w51 ⟨rfl, u52⟩ zu52
 refine go ?_
 refine c_drawnM follows (fun i => i = bk7) (OTl [0, 2, 4, 6, 8, 11, 12, 15, 16]) (by kernel_rfl) fun w56 u57 => ?_
 have zu57 := u57.size
 refine go ?_
 refine y_quo rfl rfl rfl rfl (by omega) (by omega) ?_
 refine go ?_
 refine x_c func107 rfl rfl (most_c m p lo hi s _ r1) ?_
 rintro _ w60 ⟨rfl, u61⟩ zu61
 refine go ?_
 refine x_s fun w64 sw64 B66 u65 => ?_
 refine go ?_
 refine f_ret2 (v1 := .agg #[.int .i64 ((wayN m p hi s) / (wayD p hi)), .int .i64 (mostV m p lo s)]) (v2 := .int .i64 0) results41 ⟨_, _, rfl, run_loadVarN (vs := [.int .i64 ((wayN m p hi s) / (wayD p hi)), .int .i64 (mostV m p lo s)]) isAgg28 sizeOf28 rfl (B66.at.sub 0 2)⟩ rfl ?_
 exact ⟨by simp only [StopB, StopE, okStop, decide_eq_true (Decidable.not_not.1 g25), hb]; simp, u_d⟩
theorem search_c (n : Int) (q : Int → Bool) (fv : FuncId) (caps : List Value) (w0 : World) (hn : 0 ≤ n ∧ n ≤ 1000000000) (ho : Own Tryz.prog fv) (hp : ∀ x, 0 ≤ x ∧ x < n → ∀ w, Ext w0 w → CallsV Tryz.prog fv ([.int .i64 x] ++ caps) w fun v w' => v = .bool (q x) ∧ Ext w w') :
    CallsV Tryz.prog 275 [.int .i64 n, .func (.func fv) #[] (caps).toArray] w0 (fun v w' => (∃ r : Int, v = .int .i64 r ∧ 0 ≤ r ∧ r ≤ n ∧ (0 < r → q (r - 1) = false) ∧ (r < n → q r = true)) ∧ Ext w0 w') := by
 refine f_n func275 ?_
 refine go ?_
 refine x_l2 (fun _ => False) [1] (fun (i : Int) (j : Int) => [(5, .int .i64 i), (6, .int .i64 j)]) (fun i j w => (0 ≤ i ∧ i ≤ j ∧ j ≤ n) ∧ (0 < i → q (i - 1) = false) ∧ (j < n → q j = true)) (fun i j => (j - i).toNat) 0 n ⟨(by first | omega | (simp only []; omega)), (by first | omega | (simp only []; omega)), (by first | omega | (simp only []; omega))⟩ ?_
 rintro i j w5 ⟨hij, hlo, hhi⟩ u6 zu6 K4 hK4
 refine go ?_
 refine q_p (fun g11 => ?_) fun g11 => ?_
 ·
  refine go ?_
  refine t_conv underlying3 underlying213 rfl rfl rfl (IntWalk.u64_in _ (by omega)) (t_shr1 rfl rfl rfl rfl (by omega) (t_conv underlying213 underlying3 rfl rfl rfl (IntWalk.i64_in _ (by omega)) ?_))
  refine go ?_
  refine t_call (fs := []) (cs := caps) ho rfl rfl rfl rfl (hp ((i + j) / 2) (by omega) _ ((Upd.refl (fun _ => False) w0).nx u6)) (fun v12 w13 r15 => ?_)
  obtain ⟨rfl, u14⟩ := r15
  have zu14 := u14.size
  refine go ?_
  refine q_b (fun g21 => ?_) fun g21 => ?_
  ·
   refine go ?_
   exact hK4 (((i + j) / 2) + 1) j ⟨(by show (0 : Int) ≤ (((i + j) / 2) + 1) ∧ ((((i + j) / 2) + 1) : Int) ≤ j ∧ (j : Int) ≤ n; omega), (by intro _; show q ((((i + j) / 2) + 1) - 1) = false; rw [Int.add_sub_cancel]; simpa using g21), hhi⟩
  refine go ?_
  exact hK4 i ((i + j) / 2) ⟨(by show (0 : Int) ≤ i ∧ (i : Int) ≤ ((i + j) / 2) ∧ (((i + j) / 2) : Int) ≤ n; omega), hlo, (by intro _; show q (((i + j) / 2)) = true; simpa using g21)⟩
 refine go ?_
 refine f_1 results275 ?_
 exact ⟨⟨_, rfl, by omega, by omega, hlo, fun h => by rw [show i = j from by omega] at h ⊢; exact hhi h⟩, u_d⟩

structure HRow where
  ao : Option Addr
  b : Nat
  o : Nat
  cap : Nat
  xs : List Hull
instance : Inhabited HRow := ⟨⟨default, default, default, default, default⟩⟩
structure Size where
  len : Int
  wid : Int
  mass : Int
  hulls : Int
instance : Inhabited Size := ⟨⟨default, default, default, default⟩⟩
def addH (r : Row) (h : Hull) : Row := ⟨max r.long h.len, r.wide + h.wid, r.mass + h.mass⟩
def rowOf (xs : List Hull) : Row := xs.foldl addH ⟨0, 0, 0⟩
def addRow (s : Size) (xs : List Hull) : Size := ⟨s.len + (rowOf xs).long, max s.wid (rowOf xs).wide, s.mass + (rowOf xs).mass, s.hulls + xs.length⟩
def sizeOf (boat : Hull) (rows : List (List Hull)) : Size := rows.foldl addRow ⟨boat.len, boat.wid, boat.mass, 0⟩
end Go.Proofs.YtclinbbghnebaaaGreat
namespace Go.Proofs.YtclinbbghnebaaaGreat
open Go Go.RowKit Go.Proofs.Tryz
set_option maxRecDepth 10000
theorem may_c (s o : Stay) (w0 : World) :
    CallsV Tryz.prog 34 [.agg #[.int .i64 s.inn.lo, .int .i64 s.inn.hi, .int .i64 s.out.lo, .int .i64 s.out.hi, .bool s.there], .agg #[.int .i64 o.inn.lo, .int .i64 o.inn.hi, .int .i64 o.out.lo, .int .i64 o.out.hi, .bool o.there]] w0 (fun v w' => v = .bool (mayB s o) ∧ Ext w0 w') := by
 refine f_n func34 ?_
 refine go ?_
 refine x_b fun bk2 w3 ebk2 sbk2 B4 u5 => ?_
 refine x_b fun bk7 w8 ebk7 sbk7 B9 u10 => ?_
 refine go ?_
 refine t_split 7 rfl (fun g7 => ?_) (fun g7 => ?_)
 ·
  refine go ?_
  refine t_split 11 rfl (fun g11 => ?_) (fun g11 => ?_)
  ·
   refine go ?_
   refine t_splitp 20 rfl (fun g20 => ?_) (fun g20 => ?_)
   ·
    refine go ?_
    refine f_1 results34 ?_
    exact ⟨by simp [mayB, *], u_d⟩
   refine go ?_
   refine f_1 results34 ?_
   exact ⟨by simp [mayB, *], u_d⟩
  refine go ?_
  refine f_1 results34 ?_
  exact ⟨by simp [mayB, *], u_d⟩
 refine go ?_
 refine f_1 results34 ?_
 exact ⟨by simp [mayB, *], u_d⟩
structure HVoy where
  v : Voy
  ao : Option Addr
  b : Nat
  o : Nat
  cap : Nat
instance : Inhabited HVoy := ⟨⟨default, default, default, default, default⟩⟩
def encHVoy (x : HVoy) : List Value := [.int .i64 x.v.st.lo, .int .i64 x.v.st.hi, .slice x.ao x.v.runs.length x.cap, .int .i64 x.v.len, .int .i64 x.v.wid]
def encStay (s : Stay) : List Value := [.int .i64 s.inn.lo, .int .i64 s.inn.hi, .int .i64 s.out.lo, .int .i64 s.out.hi, .bool s.there]
structure HSt where
  ss : List Stay
  ao : Option Addr
  g : Nat
  cap : Nat
instance : Inhabited HSt := ⟨⟨default, default, default, default⟩⟩
def encHSt (r : HSt) : List Value := [.slice r.ao r.ss.length r.cap]
/-- Rows of stays, each in a block of its own from base on and below lim, none of them g2. -/
def HRows (base g2 lim : Nat) (rows : List HSt) (w : World) : Prop := ∀ r ∈ rows, Sl encStay 5 w r.ao r.g 0 r.ss ∧ (0 < r.ss.length → base ≤ r.g ∧ r.g ≠ g2 ∧ r.g < lim)
theorem HRows.keep {base g2 lim : Nat} {rows : List HSt} {w w' : World} {S : Nat → Prop} (h : HRows base g2 lim rows w) (u : Upd S w w') (hS : ∀ i, base ≤ i → i ≠ g2 → i < lim → ¬ S i) : HRows base g2 lim rows w' := fun r hr => by
  obtain ⟨h1, h2⟩ := h r hr
  exact ⟨h1.keep u (fun hp => hS _ (h2 hp).1 (h2 hp).2.1 (h2 hp).2.2), h2⟩
theorem HRows.mono {base g2 lim lim' : Nat} {rows : List HSt} {w : World} (h : HRows base g2 lim rows w) (hl : lim ≤ lim') : HRows base g2 lim' rows w := fun r hr => ⟨(h r hr).1, fun hp => by have := (h r hr).2 hp; omega⟩
theorem HRows.snoc {base g2 g3 lim : Nat} {rows : List HSt} {w : World} (h : HRows base g2 lim rows w) (r : HSt) (lim' : Nat) (hl : lim ≤ lim') (hr : Sl encStay 5 w r.ao r.g 0 r.ss) (hb : 0 < r.ss.length → base ≤ r.g ∧ r.g ≠ g3 ∧ r.g < lim') (hg : g3 = g2 ∨ lim ≤ g3) : HRows base g3 lim' (rows ++ [r]) w := fun x hx => by
  rcases List.mem_append.1 hx with hx | hx
  · obtain ⟨h1, h2⟩ := h x hx
    exact ⟨h1, fun hp => by have := h2 hp; omega⟩
  · have : x = r := by simpa using hx
    subst this
    exact ⟨hr, hb⟩
def opE1 (v : Voy) : List Nar → Int
  | [] => 0
  | n :: ns => if thrE v n = 0 then opE1 v ns else thrE v n
def opE2 (ns : List Nar) : List Voy → Int
  | [] => 0
  | v :: l => if opE1 v ns = 0 then opE2 ns l else opE1 v ns
def OpenE (l : List Voy) (ns : List Nar) : Int := if 12 < l.length ∨ 20 < ns.length then 5 else if (l.any fun v => decide (chk v ≠ 0)) || (ns.any fun n => !okNar n) then 2 else opE2 ns l
theorem opE1_step {v : Voy} {ns : List Nar} {j : Nat} (h : j < ns.length) : opE1 v (ns.drop j) = if thrE v (nth ns j) = 0 then opE1 v (ns.drop (j + 1)) else thrE v (nth ns j) := by rw [drop_nth h]; rfl
theorem opE2_step {l : List HVoy} {ns : List Nar} {k : Nat} (h : k < l.length) : opE2 ns ((l.map HVoy.v).drop k) = if opE1 (nth l k).v ns = 0 then opE2 ns ((l.map HVoy.v).drop (k + 1)) else opE1 (nth l k).v ns := by
  rw [← List.map_drop, drop_nth h, List.map_cons, opE2, List.map_drop]
/-- Traffic in memory; all of it below lim. -/
structure Traf (lim t : Nat) (vs : List HVoy) (ns : List Nar) (rows : List HSt) (av an ar : Option Addr) (bv ov bn on br : Nat) (cv cn cr : Nat) (w : World) : Prop where
  blk : Blk w t 119 [.slice av vs.length cv, .slice an ns.length cn, .slice ar rows.length cr]
  vsl : Sl encHVoy 5 w av bv ov vs
  nsl : Sl encNar 4 w an bn on ns
  ssl : Sl encHSt 1 w ar br 0 rows
  rsl : ∀ r ∈ rows, Sl encStay 5 w r.ao r.g 0 r.ss
  tl : t < lim
  ll : lim ≤ w.heap.size
  vl : 0 < vs.length → bv < lim
  nl : 0 < ns.length → bn < lim
  sl : 0 < rows.length → br < lim
  rl : ∀ r ∈ rows, 0 < r.ss.length → r.g < lim
  few : vs.length ≤ 12 ∧ ns.length ≤ 20
  eq : rows.map (·.ss) = vs.map (fun h => ns.map (thrS h.v))
  ok : ∀ h ∈ vs, okVoy h.v = true
  okn : ∀ n ∈ ns, okNar n = true
theorem Traf.keep {lim t : Nat} {vs : List HVoy} {ns : List Nar} {rows : List HSt} {av an ar : Option Addr} {bv ov bn on br cv cn cr : Nat} {w w' : World} {S : Nat → Prop} (h : Traf lim t vs ns rows av an ar bv ov bn on br cv cn cr w) (u : Upd S w w') (hS : ∀ i, i < lim → ¬ S i) : Traf lim t vs ns rows av an ar bv ov bn on br cv cn cr w' :=
  { h with ll := Nat.le_trans h.ll u.size, blk := h.blk.keep u (hS _ h.tl), vsl := h.vsl.keep u (fun hp => hS _ (h.vl hp)), nsl := h.nsl.keep u (fun hp => hS _ (h.nl hp)), ssl := h.ssl.keep u (fun hp => hS _ (h.sl hp)), rsl := fun r hr => (h.rsl r hr).keep u (fun hp => hS _ (h.rl r hr hp)) }
/-- None of the traffic's blocks is among S. -/
structure TrafOff (S : Nat → Prop) (t : Nat) (vs : List HVoy) (ns : List Nar) (rows : List HSt) (bv bn br : Nat) : Prop where
  t : ¬ S t
  v : 0 < vs.length → ¬ S bv
  n : 0 < ns.length → ¬ S bn
  s : 0 < rows.length → ¬ S br
  r : ∀ r ∈ rows, 0 < r.ss.length → ¬ S r.g
section
variable {lim t : Nat} {vs : List HVoy} {ns : List Nar} {rows : List HSt} {av an ar : Option Addr} {bv ov bn on br cv cn cr : Nat} {w w' : World} {S : Nat → Prop}
theorem Traf.keepT (h : Traf lim t vs ns rows av an ar bv ov bn on br cv cn cr w) (u : Upd S w w') (hS : TrafOff S t vs ns rows bv bn br) : Traf lim t vs ns rows av an ar bv ov bn on br cv cn cr w' :=
  { h with ll := Nat.le_trans h.ll u.size, blk := h.blk.keep u hS.t, vsl := h.vsl.keep u hS.v, nsl := h.nsl.keep u hS.n, ssl := h.ssl.keep u hS.s, rsl := fun r hr => (h.rsl r hr).keep u (hS.r r hr) }
theorem Traf.off (h : Traf lim t vs ns rows av an ar bv ov bn on br cv cn cr w) (hS : ∀ i, i < lim → ¬ S i) : TrafOff S t vs ns rows bv bn br := ⟨hS _ h.tl, fun hp => hS _ (h.vl hp), fun hp => hS _ (h.nl hp), fun hp => hS _ (h.sl hp), fun r hr hp => hS _ (h.rl r hr hp)⟩
theorem Traf.offX {q : Nat} (h : Traf lim t vs ns rows av an ar bv ov bn on br cv cn cr w) (ho : TrafOff (fun i => i = q) t vs ns rows bv bn br) (hS : ∀ i, i < lim → i ≠ q → ¬ S i) : TrafOff S t vs ns rows bv bn br :=
  ⟨hS _ h.tl ho.t, fun hp => hS _ (h.vl hp) (ho.v hp), fun hp => hS _ (h.nl hp) (ho.n hp), fun hp => hS _ (h.sl hp) (ho.s hp), fun r hr hp => hS _ (h.rl r hr hp) (ho.r r hr hp)⟩
/-- Two voyages may meet in a narrow, and must not. -/
def barsV (a b : Voy) (n : Nar) : Bool := mayB (thrS a n) (thrS b n) && (n.single || decide (n.wid < a.wid + b.wid))
/-- The traffic's own blocks are from B on. -/
def FreshT (B t br : Nat) (rows : List HSt) : Prop := B ≤ t ∧ (0 < rows.length → B ≤ br) ∧ ∀ r ∈ rows, 0 < r.ss.length → B ≤ r.g
end
theorem own27 : Own Tryz.prog 27 := ⟨Tryz.f27, func27, by kernel_rfl, by kernel_rfl⟩
theorem own29 : Own Tryz.prog 29 := ⟨Tryz.f29, func29, by kernel_rfl, by kernel_rfl⟩
theorem own36 : Own Tryz.prog 36 := ⟨Tryz.f36, func36, by kernel_rfl, by kernel_rfl⟩
theorem own77 : Own Tryz.prog 77 := ⟨Tryz.f77, func77, by kernel_rfl, by kernel_rfl⟩
theorem own79 : Own Tryz.prog 79 := ⟨Tryz.f79, func79, by kernel_rfl, by kernel_rfl⟩
theorem own90 : Own Tryz.prog 90 := ⟨Tryz.f90, func90, by kernel_rfl, by kernel_rfl⟩
theorem own148 : Own Tryz.prog 148 := ⟨Tryz.f148, func148, by kernel_rfl, by kernel_rfl⟩
theorem own149 : Own Tryz.prog 149 := ⟨Tryz.f149, func149, by kernel_rfl, by kernel_rfl⟩
theorem open1_c (x : HVoy) (w0 : World) (hs : Sl encRun 6 w0 x.ao x.b x.o x.v.runs) (hl : x.v.runs.length ≤ 1000000) :
    CallsV Tryz.prog 77 [.agg #[.int .i64 x.v.st.lo, .int .i64 x.v.st.hi, .slice x.ao ((x.v.runs).length) x.cap, .int .i64 x.v.len, .int .i64 x.v.wid]] w0 (fun v w' => v = .bool (decide (chk x.v ≠ 0)) ∧ Ext w0 w') := by
 refine f_n func77 ?_
 refine go ?_
 refine x_b fun bk2 w3 ebk2 sbk2 B4 u5 => ?_
 refine go ?_
 refine x_c func30 rfl rfl (Check_c x.v x.ao x.b x.o x.cap _ (hs.keep ((Upd.refl (fun _ => False) w0).nx u5) (fun _ h => h)) (by omega)) ?_
 rintro _ w9 ⟨rfl, u10⟩ zu10
 refine go ?_
 refine f_1 results77 ?_
 exact ⟨rfl, u_d⟩
theorem open2_c (n : Nar) (w0 : World) :
    CallsV Tryz.prog 79 [.agg #[.int .i64 n.frm, .int .i64 n.to, .int .i64 n.wid, .bool n.single]] w0 (fun v w' => v = .bool (!okNar n) ∧ Ext w0 w') := by
 refine f_n func79 ?_
 refine go ?_
 refine x_b fun bk2 w3 ebk2 sbk2 B4 u5 => ?_
 refine go ?_
 refine x_c func80 rfl rfl (isNarrow_c n _) ?_
 rintro _ w9 ⟨rfl, u10⟩ zu10
 refine go ?_
 refine f_1 results79 ?_
 exact ⟨rfl, u_d⟩
set_option maxHeartbeats 4000000 in
theorem open_cV (vs : List HVoy) (ns : List Nar) (av an : Option Addr) (bv ov bn on cv cn : Nat) (w0 : World) (hs : Sl encHVoy 5 w0 av bv ov vs) (hruns : ∀ x ∈ vs, Sl encRun 6 w0 x.ao x.b x.o x.v.runs) (hrl : ∀ x ∈ vs, x.v.runs.length ≤ 1000000) (hn : Sl encNar 4 w0 an bn on ns) (hvl : vs.length ≤ 1000000) (hnl : ns.length ≤ 1000000) :
    CallsV Tryz.prog 27 [.slice av vs.length cv, .slice an ns.length cn] w0 (fun v w' => ∃ p, v = .tuple #[p, .int .i64 (OpenE (vs.map HVoy.v) ns)] ∧ (OpenE (vs.map HVoy.v) ns = 0 → ∃ t rows lim ar br cr, p = .pointer (some ⟨t, 0, none⟩) ∧ Traf lim t vs ns rows av an ar bv ov bn on br cv cn cr w' ∧ FreshT w0.heap.size t br rows) ∧ (OpenE (vs.map HVoy.v) ns ≠ 0 → p = .pointer none) ∧ Ext w0 w') := by
 have E0 := Sc.mk (Upd.refl (fun _ => False) w0)
 refine f_n func27 ?_
 refine go ?_
 refine t_splitp 18 rfl (fun g18 => ?_) (fun g18 => ?_)
 ·
  refine go ?_
  refine f_ret2 (v1 := .pointer none) (v2 := .int .i64 5) results27 rfl rfl ?_
  have hE : OpenE (vs.map HVoy.v) ns = 5 := by unfold OpenE; rw [if_pos (by rw [List.length_map]; omega)]
  have hnz : (5 : Int) ≠ 0 := by decide
  exact ⟨.pointer none, by rw [hE], (fun h => absurd (hE.symm.trans h) hnz), (fun _ => rfl), u_d⟩
 refine go ?_
 refine q_p (fun g14 => ?_) fun g14 => ?_
 ·
  refine go ?_
  refine f_ret2 (v1 := .pointer none) (v2 := .int .i64 5) results27 rfl rfl ?_
  have hE : OpenE (vs.map HVoy.v) ns = 5 := by unfold OpenE; rw [if_pos (by rw [List.length_map]; omega)]
  have hnz : (5 : Int) ≠ 0 := by decide
  exact ⟨.pointer none, by rw [hE], (fun h => absurd (hE.symm.trans h) hnz), (fun _ => rfl), u_d⟩
 refine go ?_
 refine x_c func76 rfl rfl (containsV_c encHVoy (fun _ => rfl) (fun x => decide (chk x.v ≠ 0)) 77 [] vs av bv ov cv _ own77 (fun x hx w u => open1_c x w ((hruns x hx).keep (E0.u.trans u) (fun _ h => h)) (hrl x hx)) hs (by omega)) ?_
 rintro _ w9 ⟨rfl, u10⟩ zu10
 have E12 := Sc.mk (E0.u.nx u10)
 refine go ?_
 refine q_b (fun g23 => ?_) fun g23 => ?_
 ·
  refine c_same 23 (v := .bool true) rfl (congrArg Value.bool g23) ?_
  refine go ?_
  refine f_ret2 (v1 := .pointer none) (v2 := .int .i64 2) results27 rfl rfl ?_
  have hE : OpenE (vs.map HVoy.v) ns = 2 := by unfold OpenE; rw [if_neg (by rw [List.length_map]; omega), List.any_map]; simp_all [Function.comp_def]
  have hnz : (2 : Int) ≠ 0 := by decide
  exact ⟨.pointer none, by rw [hE], (fun h => absurd (hE.symm.trans h) hnz), (fun _ => rfl), u_d⟩
 have g23a := g23
 refine c_same 23 (v := .bool false) rfl (congrArg Value.bool g23) ?_
 refine go ?_
 refine x_c func78 rfl rfl (containsR_c encNar (fun _ => rfl) (fun n => !okNar n) 79 [] ns an bn on cn _ own79 (fun x hx w u => open2_c x w) (hn.keep E12.u (fun _ h => h)) (by omega)) ?_
 rintro _ w15 ⟨rfl, u16⟩ zu16
 refine go ?_
 refine q_b (fun g23 => ?_) fun g23 => ?_
 ·
  refine c_same 23 (v := .bool true) rfl (congrArg Value.bool g23) ?_
  refine go ?_
  refine f_ret2 (v1 := .pointer none) (v2 := .int .i64 2) results27 rfl rfl ?_
  have hE : OpenE (vs.map HVoy.v) ns = 2 := by unfold OpenE; rw [if_neg (by rw [List.length_map]; omega), List.any_map]; simp_all [Function.comp_def]
  have hnz : (2 : Int) ≠ 0 := by decide
  exact ⟨.pointer none, by rw [hE], (fun h => absurd (hE.symm.trans h) hnz), (fun _ => rfl), u_d⟩
 have g23b := g23
 refine c_same 23 (v := .bool false) rfl (congrArg Value.bool g23) ?_
 refine go ?_
 have hany1 : (vs.any fun x => decide (chk x.v ≠ 0)) = false := g23a
 have hokv : ∀ x ∈ vs, okVoy x.v = true := fun x hx => by have := List.any_eq_false.1 hany1 x hx; exact okVoy_of (by simpa using this)
 have hokn : ∀ n ∈ ns, okNar n = true := fun n hh => by have := List.any_eq_false.1 g23b n hh; simpa using this
 have hE0 : OpenE (vs.map HVoy.v) ns = opE2 ns (vs.map HVoy.v) := by unfold OpenE; rw [if_neg (by rw [List.length_map]; omega), List.any_map, show (vs.any ((fun v => decide (chk v ≠ 0)) ∘ fun x => x.v)) = false from hany1, g23b]; rfl
 refine go ?_
 refine x_b fun bk21 w22 ebk21 sbk21 B23 u24 => ?_
 refine go ?_
 refine x_l5 (fun i => i = bk21) [1, 6, 32, 33] (fun (k : Nat) (ao2 : Option Addr) (g2 : Nat) (c2 : Nat) (rows : List HSt) => [(34, .int .i64 (k : Int))]) (fun k ao2 g2 c2 rows w => Blk w bk21 119 [.slice av vs.length cv, .slice an ns.length cn, .slice ao2 rows.length c2] ∧ (k ≤ vs.length) ∧ (opE2 ns (vs.map HVoy.v) = opE2 ns ((vs.map HVoy.v).drop k)) ∧ (rows.map (·.ss) = (vs.take k).map (fun h => ns.map (thrS h.v))) ∧ (Acc encHSt 1 116 w22.heap.size w ao2 g2 c2 rows) ∧ (HRows w22.heap.size g2 w.heap.size rows w) ∧ (rows.length = k)) (fun k ao2 g2 c2 rows => vs.length - k) 0 none 0 0 ([]) ⟨B23, (Nat.zero_le _), rfl, rfl, (Acc.nil _ _ _ _ _ (by omega) (Nat.le_refl _)), (fun r hr => by cases hr), rfl⟩ ?_
 rintro k ao2 g2 c2 rows w29 ⟨I31, hk, hgo, hmap, hacc, hrows, hrl2⟩ u30 zu30 K28 hK28
 have E32 := Sc.mk (((E12.u.nx u16).nx u24).next u30 (fun i hi h => by omega))
 have lt_g2 := hacc.lt
 refine go ?_
 refine q_p (fun g35 => ?_) fun g35 => ?_
 ·
  refine go ?_
  refine g_i k (hs.keep E32.u (fun _ h => h)) (fun _ => ?_)
  refine go ?_
  refine x_n fun bk38 w39 ebk38 sbk38 B40 u41 => ?_
  refine x_s fun w43 sw43 B45 u44 => ?_
  refine go ?_
  refine x_l5 (fun _ => False) [1, 6, 8, 32, 33, 34, 38, 39] (fun (j : Nat) (ao3 : Option Addr) (g3 : Nat) (c3 : Nat) (ss : List Stay) => [(9, .slice ao3 ss.length c3), (40, .int .i64 (j : Int))]) (fun j ao3 g3 c3 ss w => (j ≤ ns.length) ∧ (opE1 (nth vs k).v ns = opE1 (nth vs k).v (ns.drop j)) ∧ (ss = (ns.take j).map (thrS (nth vs k).v)) ∧ (Acc encStay 5 115 w43.heap.size w ao3 g3 c3 ss) ∧ (ss.length = j)) (fun j ao3 g3 c3 ss => ns.length - j) 0 none 0 0 ([]) ⟨(Nat.zero_le _), rfl, rfl, (Acc.nil _ _ _ _ _ (by omega) (Nat.le_refl _)), rfl⟩ ?_
  rintro j ao3 g3 c3 ss w51 ⟨hj, hin, hss, hacc3, hsl3⟩ u52 zu52 K50 hK50
  have E53 := Sc.mk (((E32.u.nx u41).next u44 (fun i hi h => by omega)).nx u52)
  have lt_g3 := hacc3.lt
  refine go ?_
  refine q_p (fun g41 => ?_) fun g41 => ?_
  ·
   refine go ?_
   refine g_i j (hn.keep E53.u (fun _ h => h)) (fun _ => ?_)
   refine go ?_
   refine x_n fun bk59 w60 ebk59 sbk59 B61 u62 => ?_
   refine x_s fun w64 sw64 B66 u65 => ?_
   refine go ?_
   refine x_c func81 rfl rfl (through_c (nth vs k).v (nth vs k).ao (nth vs k).b (nth vs k).o (nth vs k).cap (nth ns j) _ ((hruns (nth vs k) (nth_mem (by omega))).keep ((E53.u.nx u62).next u65 (fun i hi h => by omega)) (fun _ h => h)) (okVoy_rng (hokv (nth vs k) (nth_mem (by omega)))) (okNar_rng (hokn _ (nth_mem (by omega))))) ?_
   rintro _ w70 ⟨rfl, u71⟩ zu71
   refine go ?_
   refine x_n fun bk74 w75 ebk74 sbk74 B76 u77 => ?_
   refine x_s fun w79 sw79 B81 u80 => ?_
   refine go ?_
   refine q_p (fun g51 => ?_) fun g51 => ?_
   ·
    refine go ?_
    refine f_ret2 (v1 := .pointer none) (v2 := .int .i64 (thrE (nth vs k).v (nth ns j))) results27 rfl rfl ?_
    have hE : OpenE (vs.map HVoy.v) ns = thrE (nth vs k).v (nth ns j) := by rw [hE0, hgo, opE2_step (by omega), hin, opE1_step (by omega), if_neg g51, if_neg g51]
    have hnz := g51
    exact ⟨.pointer none, by rw [hE], (fun h => absurd (hE.symm.trans h) hnz), (fun _ => rfl), u_d⟩
   refine go ?_
   refine x_l fun bk86 w87 ebk86 sbk86 B88 u89 => ?_
   have D91 := ((((((hacc3.keep u62 (fun _ h => h)).keep u65 (fun hb => show ¬ (g3 = bk59) by first | omega | assumption)).keep u71 (fun _ h => h)).keep u77 (fun _ h => h)).keep u80 (fun hb => show ¬ (g3 = bk74) by first | omega | assumption)).keep u89 (fun _ h => h))
   refine t_append (z := .agg #[.int .i64 0, .int .i64 0, .int .i64 0, .int .i64 0, .bool false]) (bytes := 40) (k := 5) (base := w43.heap.size) (thrS (nth vs k).v (nth ns j)) underlying116 (by kernel_rfl) rfl (by decide) (fun _ => rfl) (by intro x; simp [encStay, Value.oneCell']) rfl rfl rfl rfl D91 B88 (by omega) (by omega) (by decide) (fun ao92 gb93 cp94 w95 A96 u97 gegb93 lngb93 => ?_)
   have zu97 := u97.size
   have lt_gb93 := A96.lt
   refine go ?_
   exact hK50 (j + 1) ao92 gb93 cp94 (ss ++ [(thrS (nth vs k).v (nth ns j))]) ⟨(by omega), (by rw [hin, opE1_step (by omega), if_pos (Decidable.not_not.1 g51)]), (by rw [hss, take_nth (by omega), List.map_append, List.map_singleton]), A96, (by show (ss ++ [_]).length = j + 1; simp [hsl3])⟩
  have hinner0 : opE1 (nth vs k).v ns = 0 := by rw [hin, List.drop_eq_nil_of_le (by omega)]; rfl
  have hssall : ss = ns.map (thrS (nth vs k).v) := by rw [hss, List.take_of_length_le (by omega)]
  refine go ?_
  refine x_l fun bk99 w100 ebk99 sbk99 B101 u102 => ?_
  have D104 := ((((hacc.keep u41 (fun _ h => h)).keep u44 (fun hb => show ¬ (g2 = bk38) by first | omega | assumption)).keep u52 (fun _ h => h)).keep u102 (fun _ h => h))
  have D105 := ((((hrows.keep u41 (fun _ _ _ _ h => h)).keep u44 (fun i h1 h2 h3 => show ¬ (i = bk38) by omega)).keep u52 (fun _ _ _ _ h => h)).keep u102 (fun _ _ _ _ h => h))
  have D106 := (hacc3.keep u102 (fun _ h => h))
  have hnewrow := D105
  have hnewsl := (D106.sl (fun _ => rfl))
  have hnewacc := D106
  have hrlt := D104
  have hg2lt := hrlt.lt
  have hg3lt := hnewacc.lt
  have hg3b : 0 < ss.length → w43.heap.size ≤ g3 := fun hp => by
    rcases hnewacc.at_ with ⟨_, h1, _⟩ | ⟨_, h1, _⟩
    · subst h1; simp at hp
    · exact h1
  refine t_append (z := .slice none 0 0) (bytes := 24) (k := 1) (base := w22.heap.size) (⟨ss, ao3, g3, c3⟩ : HSt) underlying117 (by kernel_rfl) rfl (by decide) (fun _ => rfl) (by intro x; simp [encHSt, Value.oneCell']) rfl rfl rfl rfl D104 B101 (by omega) (by omega) (by decide) (fun ao107 gb108 cp109 w110 A111 u112 gegb108 lngb108 => ?_)
  have zu112 := u112.size
  have lt_gb108 := A111.lt
  refine go ?_
  refine x_s fun w114 sw114 B116 u115 => ?_
  refine go ?_
  have D118 := (((hnewrow.keep u112 (fun i h1 h2 h3 => show ¬ ((i = g2 ∧ w22.heap.size ≤ i)) by omega)).snoc ⟨ss, ao3, g3, c3⟩ w110.heap.size (by omega) (hnewsl.keep u112 (fun hp => by have := hg3b hp; show ¬ ((g3 = g2 ∧ w22.heap.size ≤ g3)); omega)) (fun hp => by have := hg3b hp; show w22.heap.size ≤ g3 ∧ g3 ≠ gb108 ∧ g3 < w110.heap.size; omega) (g3 := gb108) (by omega)).keep u115 (fun i h1 h2 h3 => show ¬ (i = bk21) by omega))
  have D119 := (A111.keep u115 (fun hb => show ¬ (gb108 = bk21) by first | omega | assumption))
  exact hK28 (k + 1) ao107 gb108 cp109 (rows ++ [(⟨ss, ao3, g3, c3⟩ : HSt)]) ⟨B116, (by omega), (by rw [hgo, opE2_step (by omega), if_pos hinner0]), (by rw [List.map_append, hmap, take_nth (by omega), List.map_append, List.map_singleton, List.map_singleton, hssall]), D119, (D118.mono (by omega)), (by show (rows ++ [_]).length = k + 1; simp [hrl2])⟩
 refine go ?_
 refine f_ret2 (v1 := .pointer (some ⟨bk21, 0, none⟩)) (v2 := .int .i64 0) results27 rfl rfl ?_
 have hE : OpenE (vs.map HVoy.v) ns = 0 := by rw [hE0, hgo, List.drop_eq_nil_of_le (by rw [List.length_map]; omega)]; rfl
 have hb := I31.lt
 have hsz := E32.u.size
 have ha := hacc.lt
 have ha0 := hacc
 exact ⟨_, by rw [hE], (fun _ => ⟨bk21, rows, _, ao2, g2, c2, rfl, { blk := I31, vsl := (hs.keep E32.u (fun _ h => h)), nsl := (hn.keep E32.u (fun _ h => h)), ssl := (hacc.sl (fun _ => rfl)), rsl := fun r hr => (hrows r hr).1, tl := hb, ll := Nat.le_refl _, vl := fun hp => Nat.lt_of_lt_of_le (hs.lt hp) hsz, nl := fun hp => Nat.lt_of_lt_of_le (hn.lt hp) hsz, sl := fun _ => ha, rl := fun r hr hp => ((hrows r hr).2 hp).2.2, few := by omega, eq := by rw [hmap, List.take_of_length_le (by omega)], ok := hokv, okn := hokn }, by omega, fun hp => Nat.le_trans (by omega) (ha0.ge hp), fun r hr hp => Nat.le_trans (by omega) ((hrows r hr).2 hp).1⟩), (fun h => absurd hE h), u_d⟩

end Go.Proofs.YtclinbbghnebaaaGreat
namespace Go.Proofs.YtclinbbghnebaaaGreat
open Go Go.RowKit Go.Proofs.Tryz
set_option maxRecDepth 10000
theorem Traf.rowlen {lim t : Nat} {vs : List HVoy} {ns : List Nar} {rows : List HSt} {av an ar : Option Addr} {bv ov bn on br cv cn cr : Nat} {w : World} (h : Traf lim t vs ns rows av an ar bv ov bn on br cv cn cr w) : rows.length = vs.length := by
  have := congrArg List.length h.eq
  simpa using this
theorem Traf.row {lim t : Nat} {vs : List HVoy} {ns : List Nar} {rows : List HSt} {av an ar : Option Addr} {bv ov bn on br cv cn cr : Nat} {w : World} (h : Traf lim t vs ns rows av an ar bv ov bn on br cv cn cr w) {i : Nat} (hi : i < vs.length) : (nth rows i).ss = ns.map (thrS (nth vs i).v) := by
  have hl := h.rowlen
  have := congrArg (fun l => l[i]?) h.eq
  simp only [List.getElem?_map] at this
  rw [List.getElem?_eq_getElem (by omega), List.getElem?_eq_getElem hi] at this
  rw [nth_eq (by omega), nth_eq hi]
  simpa using this
/-- The two voyages must not meet in narrow k, and both come there. -/
def barB (vs : List HVoy) (ns : List Nar) (rows : List HSt) (i j k : Nat) : Bool :=
  ((nth ns k).single || decide ((nth ns k).wid < (nth vs i).v.wid + (nth vs j).v.wid)) && (nth (nth rows i).ss k).there && (nth (nth rows j).ss k).there
theorem filter_succ {p : Nat → Bool} (k : Nat) : (List.range (k + 1)).filter p = (List.range k).filter p ++ (if p k then [k] else []) := by
  rw [List.range_succ, List.filter_append]
  cases h : p k <;> simp [h]
theorem bars_c (t i j : Nat) (w0 : World) :
    CallsV Tryz.prog 33 [.pointer (some ⟨t, 0, none⟩), .int .i64 (i : Int), .int .i64 (j : Int)] w0 (fun v w' => (∃ b3 b4 b5, v = .func (.func 90) #[] #[.pointer (some ⟨b3, 0, none⟩), .pointer (some ⟨b4, 0, none⟩), .pointer (some ⟨b5, 0, none⟩)] ∧ w0.heap.size ≤ b3 ∧ w0.heap.size ≤ b4 ∧ w0.heap.size ≤ b5 ∧ Blk w' b3 103 [.pointer (some ⟨t, 0, none⟩)] ∧ Blk w' b4 3 [.int .i64 (i : Int)] ∧ Blk w' b5 3 [.int .i64 (j : Int)]) ∧ Ext w0 w') := by
 refine f_n func33 ?_
 refine go ?_
 refine x_b fun bk2 w3 ebk2 sbk2 B4 u5 => ?_
 refine x_b fun bk7 w8 ebk7 sbk7 B9 u10 => ?_
 refine x_b fun bk12 w13 ebk12 sbk12 B14 u15 => ?_
 refine go ?_
 refine t_mkfunc (vs := []) (us := [.pointer (some ⟨bk2, 0, none⟩), .pointer (some ⟨bk7, 0, none⟩), .pointer (some ⟨bk12, 0, none⟩)]) rfl rfl rfl rfl ?_
 refine go ?_
 refine f_1 results33 ?_
 have B18 := ((B4.kx u10).kx u15)
 have B19 := (B9.kx u15)
 exact ⟨⟨_, _, _, rfl, by omega, by omega, by omega, B18, B19, B14⟩, u_d⟩


/-- An element is handed out: ahead of it, and behind it. -/
def YBr (n D : Nat) (p : Nat → Bool) (T : Nat → Prop) (C : Nat → World → Prop) (x : BkE) (W : World) : Prop := x.i < n ∧ p x.i = true ∧ C x.i W ∧ D + 1 < W.heap.size ∧ Upd T x.w W
def ZBr (T : Nat → Prop) (C : Nat → World → Prop) (x : BkE) (W : World) : Prop := C (x.i + 1) W ∧ Upd T x.w W

set_option maxHeartbeats 4000000 in
theorem bars1_c (lim t : Nat) (vs : List HVoy) (ns : List Nar) (rows : List HSt) (av an ar : Option Addr) (bv ov bn on br cv cn cr : Nat) (i j b3 b4 b5 l D : Nat) (T : Nat → Prop) (C : Nat → World → Prop) (R : World → Prop) (w0 : World) (hi : i < vs.length) (hj : j < vs.length) (hC : ∀ k W W', C k W → Ext W W' → C k W') (hM : ∀ k W, C k W → Traf lim t vs ns rows av an ar bv ov bn on br cv cn cr W ∧ Blk W b3 103 [.pointer (some ⟨t, 0, none⟩)] ∧ Blk W b4 3 [.int .i64 (i : Int)] ∧ Blk W b5 3 [.int .i64 (j : Int)]) (hS : ∀ k W, k < ns.length → barB vs ns rows i j k = false → C k W → C (k + 1) W) (hH : Hands Tryz.prog l D (fun x : BkE => .int .i64 (x.i : Int)) (YBr ns.length D (barB vs ns rows i j) T C) (ZBr T C) R) (hT : TrafOff T t vs ns rows bv bn br) (hT3 : ¬ T b3) (hT4 : ¬ T b4) (hT5 : ¬ T b5) (hc : C 0 w0) (hr : R w0) (hD : D + 1 < w0.heap.size) :
    CallsV Tryz.prog 90 [.func (.yield l) #[] #[], .pointer (some ⟨b3, 0, none⟩), .pointer (some ⟨b4, 0, none⟩), .pointer (some ⟨b5, 0, none⟩)] w0 (fun _ w' => C ns.length w' ∧ R w') := by
 have hR : ∀ W W', R W → Ext W W' → R W' := fun W W' h u => hH.keep h u (fun h => h) (fun h => h)
 have hm0 := hM _ _ hc
 have htr := hm0.1
 have h3 := hm0.2.1
 have h4 := hm0.2.2.1
 have h5 := hm0.2.2.2
 have htb := htr.blk
 have hrw := htr.rowlen
 have hri := congrArg List.length (htr.row hi)
 have hrj := congrArg List.length (htr.row hj)
 rw [List.length_map] at hri hrj
 have hfew := htr.few
 have hwi := (okVoy_rng (htr.ok _ (nth_mem hi))).wid
 have hwj := (okVoy_rng (htr.ok _ (nth_mem hj))).wid
 refine f_n func90 ?_
 refine go ?_
 refine x_l1 (fun i => (fun _ => True) i) [0, 1, 2, 3, 10, 11] (fun (k : Nat) => [(12, .int .i64 (k : Int))]) (fun k w => (k ≤ ns.length) ∧ (C k w) ∧ (R w)) (fun k => ns.length - k) 0 ⟨(Nat.zero_le _), hc, hr⟩ ?_
 rintro k w3 ⟨hk, hCk, hRk⟩ u4 zu4 K2 hK2
 have hm1 := hM _ _ hCk
 have hm1T := hm1.1
 have hm1b := hm1T.blk
 have hm13 := hm1.2.1
 have hm14 := hm1.2.2.1
 have hm15 := hm1.2.2.2
 have hm1l := hm1T.ll
 have hm1t := hm1T.tl
 have hm1x := hm1b.lt
 have hm1y := hm13.lt
 have hm1z := hm14.lt
 have hm1u := hm15.lt
 refine go ?_
 refine q_p (fun g13 => ?_) fun g13 => ?_
 ·
  have hkn : k < ns.length := by omega
  have hTt := hT.t
  have hTv := hT.v (by omega)
  have hTs := hT.s (by omega)
  have hTi := hT.r _ (nth_mem (xs := rows) (i := i) (by omega)) (by omega)
  have hTj := hT.r _ (nth_mem (xs := rows) (i := j) (by omega)) (by omega)
  refine go ?_
  refine g_i k hm1T.nsl (fun _ => ?_)
  refine go ?_
  refine x_n fun bk11 w12 ebk11 sbk11 B13 u14 => ?_
  refine go ?_
  refine x_s fun w16 sw16 B18 u17 => ?_
  refine go ?_
  refine c_drawnM follows (fun i => T i) (OTl [0, 3, 4, 6, 8, 10, 12, 14, 16, 18, 20, 22, 24, 26, 28, 30, 32, 34, 36, 38, 40, 43, 44, 46, 48, 50, 52, 54, 56, 58, 60, 62, 64, 66, 68, 70, 72, 74, 76, 78, 80, 82, 84, 86, 88, 90, 92, 94, 96, 98, 100, 102, 104, 107, 108, 110]) (by kernel_rfl) fun w21 u22 => ?_
  have zu22 := u22.size
  refine go ?_
  refine y_split 19 rfl (fun g19 => ?_) (fun g19 => ?_)
  ·
   refine go ?_
   have D24 := (((hm1T.keep u14 (fun _ _ h => h)).keep u17 (fun i hi => show ¬ (i = bk11) by omega)).keep u22 (fun _ _ h => h))
   refine y_i i D24.ssl (fun _ => ?_)
   refine go ?_
   refine y_i k (D24.rsl (nth rows i) (nth_mem (by omega))) (fun _ => ?_)
   refine go ?_
   refine y_split 54 rfl (fun g54 => ?_) (fun g54 => ?_)
   ·
    refine go ?_
    refine y_i j D24.ssl (fun _ => ?_)
    refine go ?_
    refine y_i k (D24.rsl (nth rows j) (nth_mem (by omega))) (fun _ => ?_)
    refine go ?_
    refine y_split 67 rfl (fun g67 => ?_) (fun g67 => ?_)
    ·
     refine go ?_
     refine t_yield (vs := [.int .i64 (k : Int)]) rfl rfl rfl rfl (hH.hand ⟨k, w21⟩ _ ⟨hkn, (by simp only [barB]; simp_all), (hC _ _ _ hCk ((((Upd.refl (fun _ => False) _).nx u14).next u17 (fun i hi (h : i = bk11) => show False by first | omega | assumption)).nx u22)), (by omega), Upd.refl _ _⟩ (hR _ _ hRk ((((Upd.refl (fun _ => False) _).nx u14).next u17 (fun i hi (h : i = bk11) => show False by first | omega | assumption)).nx u22))) (by rintro e w' ⟨rfl, _⟩; exact ⟨_, rfl⟩) (fun v29 w30 r31 => ?_)
     obtain ⟨hvr31, hrr31⟩ := r31
     injection hvr31 with hvr31
     subst hvr31
     obtain ⟨⟨hzC, u32⟩, hzR⟩ := hrr31
     have zu32 := u32.size
     change Upd T w21 w30 at u32
     have z9 := u32.size
     refine s_next ((Upd.refl _ _).next u32 (fun i hi (h : T i) => show w21.heap.size ≤ i ∨ (T i) by first | omega | exact .inr h)) ?_
     refine go ?_
     exact hK2 (k + 1) ⟨(by omega), hzC, hzR⟩ (hu := ((((u4.nx u14).next u17 (fun _ _ _ => trivial)).nx u22).next u32 (fun _ _ _ => trivial)))
    refine go ?_
    exact hK2 (k + 1) ⟨(by omega), (hS _ _ hkn (by simp [barB, g67]) (hC _ _ _ hCk ((((Upd.refl (fun _ => False) _).nx u14).next u17 (fun i hi (h : i = bk11) => show False by first | omega | assumption)).nx u22))), (hR _ _ hRk ((((Upd.refl (fun _ => False) _).nx u14).next u17 (fun i hi (h : i = bk11) => show False by first | omega | assumption)).nx u22))⟩ (hu := (((u4.nx u14).next u17 (fun _ _ _ => trivial)).nx u22))
   refine go ?_
   exact hK2 (k + 1) ⟨(by omega), (hS _ _ hkn (by simp [barB, g54]) (hC _ _ _ hCk ((((Upd.refl (fun _ => False) _).nx u14).next u17 (fun i hi (h : i = bk11) => show False by first | omega | assumption)).nx u22))), (hR _ _ hRk ((((Upd.refl (fun _ => False) _).nx u14).next u17 (fun i hi (h : i = bk11) => show False by first | omega | assumption)).nx u22))⟩ (hu := (((u4.nx u14).next u17 (fun _ _ _ => trivial)).nx u22))
  refine go ?_
  have D34 := (((hm1T.keep u14 (fun _ _ h => h)).keep u17 (fun i hi => show ¬ (i = bk11) by omega)).keep u22 (fun _ _ h => h))
  refine y_i i D34.vsl (fun _ => ?_)
  refine go ?_
  refine y_i j D34.vsl (fun _ => ?_)
  refine go ?_
  refine y_splitp 41 rfl (fun g41 => ?_) (fun g41 => ?_)
  ·
   refine go ?_
   refine y_i i D34.ssl (fun _ => ?_)
   refine go ?_
   refine y_i k (D34.rsl (nth rows i) (nth_mem (by omega))) (fun _ => ?_)
   refine go ?_
   refine y_split 54 rfl (fun g54 => ?_) (fun g54 => ?_)
   ·
    refine go ?_
    refine y_i j D34.ssl (fun _ => ?_)
    refine go ?_
    refine y_i k (D34.rsl (nth rows j) (nth_mem (by omega))) (fun _ => ?_)
    refine go ?_
    refine y_split 67 rfl (fun g67 => ?_) (fun g67 => ?_)
    ·
     refine go ?_
     refine t_yield (vs := [.int .i64 (k : Int)]) rfl rfl rfl rfl (hH.hand ⟨k, w21⟩ _ ⟨hkn, (by simp only [barB]; simp_all), (hC _ _ _ hCk ((((Upd.refl (fun _ => False) _).nx u14).next u17 (fun i hi (h : i = bk11) => show False by first | omega | assumption)).nx u22)), (by omega), Upd.refl _ _⟩ (hR _ _ hRk ((((Upd.refl (fun _ => False) _).nx u14).next u17 (fun i hi (h : i = bk11) => show False by first | omega | assumption)).nx u22))) (by rintro e w' ⟨rfl, _⟩; exact ⟨_, rfl⟩) (fun v41 w42 r43 => ?_)
     obtain ⟨hvr43, hrr43⟩ := r43
     injection hvr43 with hvr43
     subst hvr43
     obtain ⟨⟨hzC, u44⟩, hzR⟩ := hrr43
     have zu44 := u44.size
     change Upd T w21 w42 at u44
     have z9 := u44.size
     refine s_next ((Upd.refl _ _).next u44 (fun i hi (h : T i) => show w21.heap.size ≤ i ∨ (T i) by first | omega | exact .inr h)) ?_
     refine go ?_
     exact hK2 (k + 1) ⟨(by omega), hzC, hzR⟩ (hu := ((((u4.nx u14).next u17 (fun _ _ _ => trivial)).nx u22).next u44 (fun _ _ _ => trivial)))
    refine go ?_
    exact hK2 (k + 1) ⟨(by omega), (hS _ _ hkn (by simp [barB, g19, g67]) (hC _ _ _ hCk ((((Upd.refl (fun _ => False) _).nx u14).next u17 (fun i hi (h : i = bk11) => show False by first | omega | assumption)).nx u22))), (hR _ _ hRk ((((Upd.refl (fun _ => False) _).nx u14).next u17 (fun i hi (h : i = bk11) => show False by first | omega | assumption)).nx u22))⟩ (hu := (((u4.nx u14).next u17 (fun _ _ _ => trivial)).nx u22))
   refine go ?_
   exact hK2 (k + 1) ⟨(by omega), (hS _ _ hkn (by simp [barB, g19, g54]) (hC _ _ _ hCk ((((Upd.refl (fun _ => False) _).nx u14).next u17 (fun i hi (h : i = bk11) => show False by first | omega | assumption)).nx u22))), (hR _ _ hRk ((((Upd.refl (fun _ => False) _).nx u14).next u17 (fun i hi (h : i = bk11) => show False by first | omega | assumption)).nx u22))⟩ (hu := (((u4.nx u14).next u17 (fun _ _ _ => trivial)).nx u22))
  refine go ?_
  exact hK2 (k + 1) ⟨(by omega), (hS _ _ hkn (by simp [barB, g19, g41]) (hC _ _ _ hCk ((((Upd.refl (fun _ => False) _).nx u14).next u17 (fun i hi (h : i = bk11) => show False by first | omega | assumption)).nx u22))), (hR _ _ hRk ((((Upd.refl (fun _ => False) _).nx u14).next u17 (fun i hi (h : i = bk11) => show False by first | omega | assumption)).nx u22))⟩ (hu := (((u4.nx u14).next u17 (fun _ _ _ => trivial)).nx u22))
 refine go ?_
 refine f_ret0 results90 ?_
 exact ⟨(by rw [show ns.length = k by omega]; exact hCk), hRk⟩

end Go.Proofs.YtclinbbghnebaaaGreat
namespace Go.Proofs
open Go.Shelf
def YtclinbbghnebaaaGreat.sortL_ren : Go.Shelf.Ren := ⟨fun | 6 => 148 | 15 => 92 | 14 => 202 | 28 => 158 | 29 => 159 | 20 => 246 | 21 => 247 | 22 => 248 | 23 => 249 | 24 => 250 | 25 => 251 | 26 => 252 | 27 => 253 | 46 => 284 | 47 => 204 | 48 => 205 | 49 => 285 | 50 => 286 | 57 => 297 | n => n, fun | 22 => 297 | 24 => 28 | 25 => 299 | 3 => 3 | 39 => 213 | 0 => 0 | 53 => 308 | 55 => 310 | 4 => 4 | 46 => 302 | 45 => 301 | 50 => 149 | 5 => 5 | 9 => 9 | 66 => 358 | 70 => 362 | 76 => 400 | 77 => 232 | n => n, fun | n => n⟩
theorem YtclinbbghnebaaaGreat.sortL : Go.Proofs.SlLaysF0.n6 Tryz.prog YtclinbbghnebaaaGreat.sortL_ren := {
  mixed := by kernel_rfl
  f6 := ⟨Tryz.f148.name, by decide, Tryz.func148.trans (congrArg some (by kernel_rfl))⟩
  f14 := ⟨Tryz.f202.name, by decide, Tryz.func202.trans (congrArg some (by kernel_rfl))⟩
  f15 := Tryz.func92.trans (congrArg some (by kernel_rfl))
  f20 := ⟨Tryz.f246.name, by decide, Tryz.func246.trans (congrArg some (by kernel_rfl))⟩
  f21 := ⟨Tryz.f247.name, by decide, Tryz.func247.trans (congrArg some (by kernel_rfl))⟩
  f22 := ⟨Tryz.f248.name, by decide, Tryz.func248.trans (congrArg some (by kernel_rfl))⟩
  f23 := ⟨Tryz.f249.name, by decide, Tryz.func249.trans (congrArg some (by kernel_rfl))⟩
  f24 := ⟨Tryz.f250.name, by decide, Tryz.func250.trans (congrArg some (by kernel_rfl))⟩
  f25 := ⟨Tryz.f251.name, by decide, Tryz.func251.trans (congrArg some (by kernel_rfl))⟩
  f26 := ⟨Tryz.f252.name, by decide, Tryz.func252.trans (congrArg some (by kernel_rfl))⟩
  f27 := ⟨Tryz.f253.name, by decide, Tryz.func253.trans (congrArg some (by kernel_rfl))⟩
  f28 := Tryz.func158.trans (congrArg some (by kernel_rfl))
  f29 := Tryz.func159.trans (congrArg some (by kernel_rfl))
  f46 := ⟨Tryz.f284.name, by decide, Tryz.func284.trans (congrArg some (by kernel_rfl))⟩
  f47 := Tryz.func204.trans (congrArg some (by kernel_rfl))
  f48 := Tryz.func205.trans (congrArg some (by kernel_rfl))
  f49 := ⟨Tryz.f285.name, by decide, Tryz.func285.trans (congrArg some (by kernel_rfl))⟩
  f50 := ⟨Tryz.f286.name, by decide, Tryz.func286.trans (congrArg some (by kernel_rfl))⟩
  f57 := ⟨Tryz.f297.name, by decide, Tryz.func297.trans (congrArg some (by kernel_rfl))⟩
  t0 := Tryz.underlying0
  a0 := Tryz.isAgg0
  z0 := Tryz.sizeOf0
  v0 := Tryz.zeroValue0
  t3 := Tryz.underlying3
  a3 := Tryz.isAgg3
  z3 := Tryz.sizeOf3
  v3 := Tryz.zeroValue3
  t4 := Tryz.underlying4
  a4 := Tryz.isAgg4
  z4 := Tryz.sizeOf4
  v4 := Tryz.zeroValue4
  t5 := Tryz.underlying5
  a5 := Tryz.isAgg5
  z5 := Tryz.sizeOf5
  v5 := Tryz.zeroValue5
  t9 := Tryz.underlying9
  a9 := Tryz.isAgg9
  z9 := Tryz.sizeOf9
  v9 := Tryz.zeroValue9
  t22 := Tryz.underlying297
  a22 := Tryz.isAgg297
  z22 := Tryz.sizeOf297
  v22 := Tryz.zeroValue297
  t25 := Tryz.underlying299
  a25 := Tryz.isAgg299
  z25 := Tryz.sizeOf299
  v25 := Tryz.zeroValue299
  t39 := Tryz.underlying213
  a39 := Tryz.isAgg213
  z39 := Tryz.sizeOf213
  v39 := Tryz.zeroValue213
  t45 := Tryz.underlying301
  a45 := Tryz.isAgg301
  z45 := Tryz.sizeOf301
  v45 := Tryz.zeroValue301
  t46 := Tryz.underlying302
  a46 := Tryz.isAgg302
  z46 := Tryz.sizeOf302
  v46 := Tryz.zeroValue302
  t50 := Tryz.underlying149
  a50 := Tryz.isAgg149
  z50 := Tryz.sizeOf149
  v50 := Tryz.zeroValue149
  t53 := Tryz.underlying308
  a53 := Tryz.isAgg308
  z53 := Tryz.sizeOf308
  v53 := Tryz.zeroValue308
  t55 := Tryz.underlying310
  a55 := Tryz.isAgg310
  z55 := Tryz.sizeOf310
  v55 := Tryz.zeroValue310
  t66 := Tryz.underlying358
  a66 := Tryz.isAgg358
  z66 := Tryz.sizeOf358
  v66 := Tryz.zeroValue358
  t70 := Tryz.underlying362
  a70 := Tryz.isAgg362
  z70 := Tryz.sizeOf362
  v70 := Tryz.zeroValue362
  t76 := Tryz.underlying400
  a76 := Tryz.isAgg400
  z76 := Tryz.sizeOf400
  v76 := Tryz.zeroValue400
  t77 := Tryz.underlying232
  a77 := Tryz.isAgg232
  z77 := Tryz.sizeOf232
  v77 := Tryz.zeroValue232 }
end Go.Proofs
