/-
  Part 10 of the proof: contracts and plain laws. Conditions: none.
-/
import Derived.Test.YtagmkfbbhfaceaaGreatDoorCK9
namespace Go.Proofs.YtagmkfbbhfaceaaGreatDoor
open Go Go.RowKit Go.Proofs.Tryz
set_option maxRecDepth 10000
/-! ### what entries do -/
structure Hul where
  n : Int
  p : Int
  c : List Crg
instance : Inhabited Hul := ⟨⟨0, 0, []⟩⟩
structure Sea where
  m : Int
  wk : Int
  hs : List Hul
  ld : List Crg
  un : List Crg
def HR.hul (r : HR) : Hul := ⟨r.n, r.p, r.c⟩
def SG.st (V : SG) : Sea := ⟨V.m, V.wk, V.rs.map HR.hul, V.ld, V.un⟩
theorem nth_mapG {α β : Type} [Inhabited α] [Inhabited β] {f : α → β} {l : List α} {i : Nat} (h : i < l.length) : nth (l.map f) i = f (nth l i) := by
  rw [nth_eq (by rw [List.length_map]; exact h), List.getElem_map, nth_eq h]
theorem posK_map {α β : Type} (f : α → β) (ky : β → Int) (n : Int) : ∀ l : List α, posK ky n (l.map f) = posK (fun x => ky (f x)) n l
  | [] => rfl
  | x :: l => by
    simp only [List.map_cons, posK, posK_map f ky n l]
theorem isK_map {α β : Type} [Inhabited α] [Inhabited β] (f : α → β) (ky : β → Int) (n : Int) (l : List α) : isK ky n (l.map f) = isK (fun x => ky (f x)) n l := by
  rw [Bool.eq_iff_iff, isK_iff, isK_iff, posK_map, List.length_map]
  constructor
  · rintro ⟨h1, h2⟩; rw [nth_mapG h1] at h2; exact ⟨h1, h2⟩
  · rintro ⟨h1, h2⟩; rw [nth_mapG h1]; exact ⟨h1, h2⟩
def buildP (S : Sea) (x : Ent) : Int × Sea :=
  if isK (fun h : Hul => h.n) x.h S.hs = true then (6, S) else (0, { S with hs := S.hs.take (posK (fun h : Hul => h.n) x.h S.hs) ++ (⟨x.h, x.p, []⟩ : Hul) :: S.hs.drop (posK (fun h : Hul => h.n) x.h S.hs) })
def loadP (S : Sea) (k : Nat) (x : Ent) : Int × Sea :=
  if 100000 < tonP 0 (nth S.hs k).c + x.t then (8, S) else (0, { S with hs := S.hs.set k ⟨(nth S.hs k).n, (nth S.hs k).p, bookP x.b x.t (nth S.hs k).c⟩, ld := bookP x.b x.t S.ld })
def sailP (S : Sea) (k : Nat) (x : Ent) : Int × Sea :=
  if x.p - (nth S.hs k).p = 0 then (9, S) else (0, { S with wk := S.wk + tonP 0 (nth S.hs k).c * max (x.p - (nth S.hs k).p) (-(x.p - (nth S.hs k).p)), hs := S.hs.set k ⟨(nth S.hs k).n, x.p, (nth S.hs k).c⟩ })
def unloadP (S : Sea) (k : Nat) (x : Ent) : Int × Sea :=
  if tonP x.b (nth S.hs k).c < x.t then (3, S) else (0, { S with hs := S.hs.set k ⟨(nth S.hs k).n, (nth S.hs k).p, bookP x.b (-x.t) (nth S.hs k).c⟩, un := bookP x.b x.t S.un })
/-- A state in order, after entries of at most T tons in all. -/
structure SeaOk (T : Int) (S : Sea) : Prop where
  asc : Asc (fun h : Hul => h.n) S.hs
  hul : ∀ h ∈ S.hs, (1 ≤ h.n ∧ h.n ≤ 999) ∧ (0 ≤ h.p ∧ h.p ≤ 100000) ∧ CgOk 100000 h.c ∧ tonP 0 h.c ≤ 100000
  ld : CgOk T S.ld
  un : CgOk T S.un
  t : 0 ≤ T ∧ T ≤ 1000000000
  wk : 0 ≤ S.wk ∧ S.wk ≤ T * 100000
  m : 0 ≤ S.m ∧ S.m ≤ 1000000
theorem CgOk.mono {T T' : Int} {l : List Crg} (h : CgOk T l) (ht : T ≤ T') : CgOk T' l := ⟨h.1, fun x hx => by have := h.2 x hx; omega⟩
theorem SeaOk.rasc {T : Int} {V : SG} (h : SeaOk T V.st) : Asc (fun x : HR => x.n) V.rs := fun i j hij hj => by
  have := h.asc i j hij (by show j < (V.rs.map HR.hul).length; rw [List.length_map]; exact hj)
  change (nth (V.rs.map HR.hul) i).n < (nth (V.rs.map HR.hul) j).n at this
  rw [nth_mapG (by omega), nth_mapG hj] at this
  exact this
theorem SeaOk.rhul {T : Int} {V : SG} (h : SeaOk T V.st) (r : HR) (hr : r ∈ V.rs) : (1 ≤ r.n ∧ r.n ≤ 999) ∧ (0 ≤ r.p ∧ r.p ≤ 100000) ∧ CgOk 100000 r.c ∧ tonP 0 r.c ≤ 100000 := h.hul r.hul (List.mem_map_of_mem hr)
theorem SeaOk.rlen {T : Int} {V : SG} (h : SeaOk T V.st) : V.rs.length ≤ 999 := by
  have := h.rasc.len (m := 999) (fun x hx => (h.rhul x hx).1) (by decide)
  omega
theorem SG.st_nth {V : SG} {k : Nat} {r : HR} (hk : k < V.rs.length) (hr : nth V.rs k = r) : nth V.st.hs k = r.hul := by
  show nth (V.rs.map HR.hul) k = _
  rw [nth_mapG hk, hr]
theorem loadP_v {V : SG} {k : Nat} {x : Ent} (hk : k < V.rs.length) : loadP V.st k x = if 100000 < tonP 0 (nth V.rs k).c + x.t then (8, V.st) else (0, { V.st with hs := V.st.hs.set k ⟨(nth V.rs k).n, (nth V.rs k).p, bookP x.b x.t (nth V.rs k).c⟩, ld := bookP x.b x.t V.ld }) := by
  unfold loadP; rw [SG.st_nth hk rfl]; rfl
theorem unloadP_v {V : SG} {k : Nat} {x : Ent} (hk : k < V.rs.length) : unloadP V.st k x = if tonP x.b (nth V.rs k).c < x.t then (3, V.st) else (0, { V.st with hs := V.st.hs.set k ⟨(nth V.rs k).n, (nth V.rs k).p, bookP x.b (-x.t) (nth V.rs k).c⟩, un := bookP x.b x.t V.un }) := by
  unfold unloadP; rw [SG.st_nth hk rfl]; rfl
theorem sailP_v {V : SG} {k : Nat} {x : Ent} (hk : k < V.rs.length) : sailP V.st k x = if x.p - (nth V.rs k).p = 0 then (9, V.st) else (0, { V.st with wk := V.wk + tonP 0 (nth V.rs k).c * max (x.p - (nth V.rs k).p) (-(x.p - (nth V.rs k).p)), hs := V.st.hs.set k ⟨(nth V.rs k).n, x.p, (nth V.rs k).c⟩ }) := by
  unfold sailP; rw [SG.st_nth hk rfl]; rfl
theorem mul_range {a b m n : Int} (ha : 0 ≤ a ∧ a ≤ m) (hb : 0 ≤ b ∧ b ≤ n) : 0 ≤ a * b ∧ a * b ≤ m * n := ⟨Int.mul_nonneg ha.1 hb.1, Int.mul_le_mul ha.2 hb.2 hb.1 (Int.le_trans ha.1 ha.2)⟩
theorem find_c (base sb : Nat) (V : SG) (T : Int) (n : Int) (w0 : World) (hM : SeaM base sb w0 V) (hok : SeaOk T V.st) (hn : -1000000 ≤ n ∧ n ≤ 1000000) :
    CallsV Tryz.prog 96 [.pointer (some ⟨sb, 0, none⟩), .int .i64 n] w0 (fun v w' => v = .tuple #[.int .i64 (posK (fun x : HR => x.n) n V.rs : Int), .bool (isK (fun x : HR => x.n) n V.rs)] ∧ Ext w0 w') := by
 have hB : Blk w0 sb 146 [.int .i64 V.m, .slice V.ah V.rs.length V.ch, .slice V.al V.ld.length V.cl, .slice V.au V.un.length V.cu, .int .i64 V.wk] := hM.blk
 have hH := hM.hacc
 have lt_gh := hH.lt
 have lt_sb := hB.lt
 have hsge := hM.sge
 have hrl := hok.rlen
 have hsg : V.gh < base ∨ V.gh < sb ∨ sb < V.gh := by
   rcases Nat.lt_or_ge V.gh base with q | q
   · exact .inl q
   · have := hH.neB hB (by decide) q; omega
 refine f_n func96 ?_
 refine go ?_
 refine x_c func141 rfl rfl (searchH_c V.rs V.ah V.gh 0 V.ch n _ (hH.sl (fun _ => rfl)) hok.rasc (by omega) (fun x hx => by have := (hok.rhul x hx).1; omega) hn) ?_
 rintro _ w4 ⟨rfl, u5⟩ zu5
 refine go ?_
 refine f_ret2 (v1 := .int .i64 (posK (fun x : HR => x.n) n V.rs : Int)) (v2 := .bool (isK (fun x : HR => x.n) n V.rs)) results96 rfl rfl ?_
 exact ⟨rfl, u_d⟩

set_option maxHeartbeats 4000000 in
theorem build0_c (base sb m : Nat) (V : SG) (T : Int) (x : Ent) (k : Nat) (bb : Bool) (w0 : World) (hM : SeaM base sb w0 V) (hok : SeaOk T V.st) (hmm : SeaL m V) (_hmw : m ≤ w0.heap.size) (hx : okEnt x = true) (hb0 : 0 < base) (_hbs : base ≤ w0.heap.size) (hkd : posK (fun x : HR => x.n) x.h V.rs = k) (hbb : isK (fun x : HR => x.n) x.h V.rs = bb) :
    CallsV Tryz.prog 95 [.pointer (some ⟨sb, 0, none⟩), .agg #[.int .i64 x.m, .int .i64 x.k, .int .i64 x.h, .int .i64 x.p, .int .i64 x.b, .int .i64 x.t]] w0 (fun v w' => (∃ V', v = .int .i64 (buildP V.st x).1 ∧ SeaM base sb w' V' ∧ V'.st = (buildP V.st x).2) ∧ Upd (fun i => i = sb ∨ (base ≤ i ∧ i < m)) w0 w') := by
 have hB : Blk w0 sb 146 [.int .i64 V.m, .slice V.ah V.rs.length V.ch, .slice V.al V.ld.length V.cl, .slice V.au V.un.length V.cu, .int .i64 V.wk] := hM.blk
 have hH := hM.hacc
 have lt_gh := hH.lt
 have lt_sb := hB.lt
 have hsge := hM.sge
 have hrl := hok.rlen
 have hsg : V.gh < base ∨ V.gh < sb ∨ sb < V.gh := by
   rcases Nat.lt_or_ge V.gh base with q | q
   · exact .inl q
   · have := hH.neB hB (by decide) q; omega
 obtain ⟨hmh, hml, hmu, hmr⟩ := hmm
 have hx9 := okEnt_iff hx
 have hk : k ≤ V.rs.length := by have := (posK_spec (fun x : HR => x.n) x.h V.rs).1; rw [hkd] at this; exact this
 refine f_n func95 ?_
 refine go ?_
 refine x_b fun bk2 w3 ebk2 sbk2 B4 u5 => ?_
 refine go ?_
 have D8 := (hM.ext u5)
 refine x_c func96 rfl rfl (by have h9 := find_c base sb V T x.h _ D8 hok (by omega); rw [hkd, hbb] at h9; exact h9) ?_
 rintro _ w10 ⟨rfl, u11⟩ zu11
 refine go ?_
 refine q_b (fun g14 => ?_) fun g14 => ?_
 ·
  refine go ?_
  refine f_1 results95 ?_
  have D17 := (D8.ext u11)
  have hbk : isK (fun h : Hul => h.n) x.h V.st.hs = bb ∧ posK (fun h : Hul => h.n) x.h V.st.hs = k := ⟨(isK_map HR.hul (fun h : Hul => h.n) x.h V.rs).trans hbb, (posK_map HR.hul (fun h : Hul => h.n) x.h V.rs).trans hkd⟩
  exact ⟨⟨V, by unfold buildP; rw [hbk.1, if_pos g14], D17, by unfold buildP; rw [hbk.1, if_pos g14]⟩, u_d⟩
 refine go ?_
 refine c_drawnM follows (fun i => (i = V.gh ∧ base ≤ i) ∨ i = sb) (.look 0 (.look 1 (.look 2 (.look 3 (.look 4 (.look 6 (.look 7 (.look 8 (.look 9 (.look 10 (.look 11 (.act 5 (.act 12 (.act 13 (.look 14 (.look 15 (.look 16 (.act 17 .done .stop)))) .stop) .stop) (.act 12 (.act 5 (.act 13 (.look 14 (.look 15 (.look 16 (.act 17 .done .stop)))) .stop) .stop) .stop))))))))))))) (by kernel_rfl) fun w19 u20 => ?_
 have zu20 := u20.size
 refine go ?_
 refine s_or ?_ ?_
 ·
  refine go ?_
  refine x_l fun bk22 w23 ebk22 sbk22 B24 u25 => ?_
  refine go ?_
  have D27 := ((((hH.keep u5 (fun _ h => h)).keep u11 (fun _ h => h)).keep u20 (fun _ h => h)).keep u25 (fun _ h => h))
  have lbv := B24.lt
  have D28 := (((D8.ext u11).ext u20).ext u25)
  have hM0 := D28
  refine x_c func140 rfl rfl (insertH_c V.rs V.ah V.gh V.ch base k bk22 (⟨x.h, x.p, none, 0, 0, 0, []⟩ : HR) _ D27 hk (by omega) (by omega) B24 (by omega)) ?_
  rintro _ w30 ⟨⟨a1, g1, c1, rfl, hA1, hg1⟩, u31⟩ zu31
  have lt_a1 := hA1.lt
  refine go ?_
  refine x_s fun w34 sw34 B36 u35 => ?_
  refine go ?_
  refine f_1 results95 ?_
  have hbk : isK (fun h : Hul => h.n) x.h V.st.hs = bb ∧ posK (fun h : Hul => h.n) x.h V.st.hs = k := ⟨(isK_map HR.hul (fun h : Hul => h.n) x.h V.rs).trans hbb, (posK_map HR.hul (fun h : Hul => h.n) x.h V.rs).trans hkd⟩
  have hA1n : base ≤ g1 → g1 < sb ∨ sb < g1 := fun hb => by
    rcases hg1 with e | e
    · have := hH.neB hB (by decide) (by omega); omega
    · omega
  have hS1 := (((Upd.refl (fun i => i = sb ∨ (i = V.gh ∧ base ≤ i)) _).next u31 (fun i hi h => by omega)).next u35 (fun i hi h => by omega))
  have hA9 := (hA1.keep u35 (fun hb => show ¬ (g1 = sb) from fun e => by have := hA1n hb; omega))
  exact ⟨⟨_, by unfold buildP; rw [hbk.1, if_neg (by simpa using g14)], SeaM.ins hM0 hk hb0 (by omega) x.h x.p hS1 (fun _ h => h) (ah := a1) (gh := g1) (ch := c1) B36 hA9, by unfold buildP; rw [hbk.1, if_neg (by simpa using g14), hbk.2]; simp [SG.st, HR.hul]⟩, u_d⟩
 refine go ?_
 refine x_l fun bk39 w40 ebk39 sbk39 B41 u42 => ?_
 refine go ?_
 have D44 := ((((hH.keep u5 (fun _ h => h)).keep u11 (fun _ h => h)).keep u20 (fun _ h => h)).keep u42 (fun _ h => h))
 have lbv := B41.lt
 have D45 := (((D8.ext u11).ext u20).ext u42)
 have hM0 := D45
 refine x_c func140 rfl rfl (insertH_c V.rs V.ah V.gh V.ch base k bk39 (⟨x.h, x.p, none, 0, 0, 0, []⟩ : HR) _ D44 hk (by omega) (by omega) B41 (by omega)) ?_
 rintro _ w47 ⟨⟨a1, g1, c1, rfl, hA1, hg1⟩, u48⟩ zu48
 have lt_a1 := hA1.lt
 refine go ?_
 refine x_s fun w51 sw51 B53 u52 => ?_
 refine go ?_
 refine f_1 results95 ?_
 have hbk : isK (fun h : Hul => h.n) x.h V.st.hs = bb ∧ posK (fun h : Hul => h.n) x.h V.st.hs = k := ⟨(isK_map HR.hul (fun h : Hul => h.n) x.h V.rs).trans hbb, (posK_map HR.hul (fun h : Hul => h.n) x.h V.rs).trans hkd⟩
 have hA1n : base ≤ g1 → g1 < sb ∨ sb < g1 := fun hb => by
   rcases hg1 with e | e
   · have := hH.neB hB (by decide) (by omega); omega
   · omega
 have hS1 := (((Upd.refl (fun i => i = sb ∨ (i = V.gh ∧ base ≤ i)) _).next u48 (fun i hi h => by omega)).next u52 (fun i hi h => by omega))
 have hA9 := (hA1.keep u52 (fun hb => show ¬ (g1 = sb) from fun e => by have := hA1n hb; omega))
 exact ⟨⟨_, by unfold buildP; rw [hbk.1, if_neg (by simpa using g14)], SeaM.ins hM0 hk hb0 (by omega) x.h x.p hS1 (fun _ h => h) (ah := a1) (gh := g1) (ch := c1) B53 hA9, by unfold buildP; rw [hbk.1, if_neg (by simpa using g14), hbk.2]; simp [SG.st, HR.hul]⟩, u_d⟩

theorem build_c (base sb m : Nat) (V : SG) (T : Int) (x : Ent) (w0 : World) (hM : SeaM base sb w0 V) (hok : SeaOk T V.st) (hmm : SeaL m V) (hmw : m ≤ w0.heap.size) (hx : okEnt x = true) (hb0 : 0 < base) (hbs : base ≤ w0.heap.size) :
    CallsV Tryz.prog 95 [.pointer (some ⟨sb, 0, none⟩), .agg #[.int .i64 x.m, .int .i64 x.k, .int .i64 x.h, .int .i64 x.p, .int .i64 x.b, .int .i64 x.t]] w0 (fun v w' => (∃ V', v = .int .i64 (buildP V.st x).1 ∧ SeaM base sb w' V' ∧ V'.st = (buildP V.st x).2) ∧ Upd (fun i => i = sb ∨ (base ≤ i ∧ i < m)) w0 w') :=
  build0_c base sb m V T x _ _ w0 hM hok hmm hmw hx hb0 hbs rfl rfl

set_option maxHeartbeats 4000000 in
theorem load_c (base sb m : Nat) (V : SG) (T : Int) (x : Ent) (k : Nat) (w0 : World) (hM : SeaM base sb w0 V) (hok : SeaOk T V.st) (hmm : SeaL m V) (_hmw : m ≤ w0.heap.size) (hx : okEnt x = true) (hk : k < V.rs.length) (hkd : x.k = 2) (_hbs : base ≤ w0.heap.size) :
    CallsV Tryz.prog 92 [.pointer (some ⟨sb, 0, none⟩), .pointer (some ⟨V.gh, 0 + k * 3, none⟩), .agg #[.int .i64 x.m, .int .i64 x.k, .int .i64 x.h, .int .i64 x.p, .int .i64 x.b, .int .i64 x.t]] w0 (fun v w' => (∃ V', v = .int .i64 (loadP V.st k x).1 ∧ SeaM base sb w' V' ∧ V'.st = (loadP V.st k x).2) ∧ Upd (fun i => i = sb ∨ (base ≤ i ∧ i < m)) w0 w') := by
 have hB : Blk w0 sb 146 [.int .i64 V.m, .slice V.ah V.rs.length V.ch, .slice V.al V.ld.length V.cl, .slice V.au V.un.length V.cu, .int .i64 V.wk] := hM.blk
 have hH := hM.hacc
 have lt_gh := hH.lt
 have lt_sb := hB.lt
 have hsge := hM.sge
 have hrl := hok.rlen
 have hsg : V.gh < base ∨ V.gh < sb ∨ sb < V.gh := by
   rcases Nat.lt_or_ge V.gh base with q | q
   · exact .inl q
   · have := hH.neB hB (by decide) q; omega
 obtain ⟨hmh, hml, hmu, hmr⟩ := hmm
 have hmk := hmr _ (nth_mem hk)
 have hx9 := okEnt_iff hx
 have hbg : base ≤ V.gh := hH.ge (by omega)
 have hrh := hok.rhul _ (nth_mem hk)
 have hcr := (hM.cacc _ (nth_mem hk)).2
 have lt_rg := hcr.lt
 have lt_gl := hM.lacc.lt
 have lt_gu := hM.uacc.lt
 have hclen := hrh.2.2.1.len
 have hct : ∀ y ∈ (nth V.rs k).c, 0 ≤ y.t ∧ y.t ≤ 1000000000000 := fun y hy => by have := (hrh.2.2.1.2 y hy).2; omega
 have htr := fun b => tonP_range (bill := b) hct
 have hot := hok.t
 have hsr : (nth V.rs k).g < base ∨ (nth V.rs k).g < sb ∨ sb < (nth V.rs k).g := by
   rcases Nat.lt_or_ge (nth V.rs k).g base with q | q
   · exact .inl q
   · have := hcr.neB hB (by decide) q; omega
 refine f_n func92 ?_
 refine go ?_
 refine x_b fun bk2 w3 ebk2 sbk2 B4 u5 => ?_
 refine go ?_
 refine c_drawnM follows (fun _ => False) (OTl [0, 4, 6, 3, 8, 10]) (by kernel_rfl) fun w9 u10 => ?_
 have zu10 := u10.size
 refine go ?_
 have D12 := ((hM.ext u5).ext u10)
 have D13 := ((hH.keep u5 (fun _ h => h)).keep u10 (fun _ h => h))
 refine x_c func138 rfl rfl (aboard_c V.gh (0 + k * 3) (nth V.rs k) 0 _ ((D13.sl (fun _ => rfl)).at_ k hk) (by omega) (by have q := D12.cacc _ (nth_mem hk); rw [q.1]; exact q.2.sl (fun _ => rfl)) hct hclen) ?_
 rintro _ w15 ⟨rfl, u16⟩ zu16
 have htb := htr 0
 refine go ?_
 refine q_p (fun g12 => ?_) fun g12 => ?_
 ·
  refine go ?_
  refine f_1 results92 ?_
  have D20 := (D12.ext u16)
  exact ⟨⟨V, by rw [loadP_v hk, if_pos (by omega)], D20, by rw [loadP_v hk, if_pos (by omega)]⟩, u_d⟩
 refine go ?_
 refine c_drawnM follows (fun i => i = V.gh ∨ (i = (nth V.rs k).g ∧ base ≤ i)) (OTl [0, 2, 4, 6, 8, 10, 12, 15]) (by kernel_rfl) fun w22 u23 => ?_
 have zu23 := u23.size
 refine go ?_
 have D25 := ((D12.ext u16).ext u23)
 have hM26 := D25
 obtain ⟨-, -, -, -, rc, hrB, -, -⟩ := Acc.raw hM26.hacc (.inr (by omega))
 have hrg : rc[0 + k * 3 + 2]? = some (.slice (nth V.rs k).ao (nth V.rs k).c.length (nth V.rs k).cp) := hrB.got ((hM26.hacc.sl (fun _ => rfl)).at_ k hk 2 _ rfl)
 refine x_c func139 rfl rfl (book_c V.gh (0 + k * 3 + 2) rc 70 (nth V.rs k).ao (nth V.rs k).g (nth V.rs k).cp base (nth V.rs k).c x.b x.t _ hrB hrg (hM26.cacc _ (nth_mem hk)).2 (fun hb => (hM26.cacc _ (nth_mem hk)).2.neA hM26.hacc (by decide) hb hbg) (by omega) (hrh.2.2.1.mono (by decide)) (by omega) (by omega)) ?_
 rintro v27 w28 ⟨⟨a1, g1, c1, hB1, hA1, hg1⟩, u29⟩ zu29
 have hM1 : SeaM base sb w28 { V with rs := V.rs.set k ⟨(nth V.rs k).n, (nth V.rs k).p, a1, g1, 0, c1, bookP x.b x.t (nth V.rs k).c⟩ } := hM26.setH hk _ u29 (fun i h => h) rfl (Acc.setRaw (k := 3) (j := k) (o' := 2) (vs := [.slice a1 (List.length (bookP x.b x.t (nth V.rs k).c)) c1]) _ (fun _ => rfl) hM26.hacc hk (Nat.le_refl 3) rfl hrB (by rw [Nat.zero_add] at hB1; exact hB1)) hA1 hg1
 refine go ?_
 refine c_drawnM follows (fun i => i = sb ∨ (i = V.gl ∧ base ≤ i)) (OTl [0, 2, 4, 6, 8, 10, 12, 14, 17]) (by kernel_rfl) fun w33 u34 => ?_
 have zu34 := u34.size
 refine go ?_
 have D36 := (hM1.ext u34)
 have hM37 := D36
 have B38 := ((((((hB.kx u5).kx u10).kx u16).kx u23).keep u29 (by omega)).kx u34)
 have hfb : Blk w33 sb 146 [.int .i64 V.m, .slice V.ah V.rs.length V.ch, .slice V.al V.ld.length V.cl, .slice V.au V.un.length V.cu, .int .i64 V.wk] := B38
 have hbc := book_c sb 2 [.int .i64 V.m, .slice V.ah V.rs.length V.ch, .slice V.al V.ld.length V.cl, .slice V.au V.un.length V.cu, .int .i64 V.wk] 146 V.al V.gl V.cl base V.ld x.b x.t w33 hfb
 have hla : Acc encCrg 2 72 base w33 V.al V.gl V.cl V.ld := hM37.lacc
 have hlk : CgOk 1000000000000 V.ld := CgOk.mono (l := V.ld) hok.ld (by omega)
 have hlp : ([.int .i64 V.m, .slice V.ah V.rs.length V.ch, .slice V.al V.ld.length V.cl, .slice V.au V.un.length V.cu, .int .i64 V.wk] : List Value)[2]? = some (.slice V.al V.ld.length V.cl) := rfl
 refine x_c func139 rfl rfl (hbc hlp hla (fun hb => hla.neB hfb (by decide) hb) (by omega) hlk (by omega) (by omega)) ?_
 rintro v39 w40 ⟨⟨a2, g2, c2, hB2, hA2, hg2⟩, u41⟩ zu41
 have hB3 : Blk w40 sb 146 [.int .i64 V.m, .slice V.ah V.rs.length V.ch, .slice a2 (List.length (bookP x.b x.t V.ld)) c2, .slice V.au V.un.length V.cu, .int .i64 V.wk] := hB2
 have hM2 : SeaM base sb w40 { ({ V with rs := V.rs.set k ⟨(nth V.rs k).n, (nth V.rs k).p, a1, g1, 0, c1, bookP x.b x.t (nth V.rs k).c⟩ } : SG) with ld := bookP x.b x.t V.ld, al := a2, gl := g2, cl := c2 } := hM37.setL u41 (fun i h => h) (by simpa [SG.cells] using hB3) hA2 hg2
 refine go ?_
 refine f_1 results92 ?_
 exact ⟨⟨_, by rw [loadP_v hk, if_neg (by omega)], hM2, by rw [loadP_v hk, if_neg (by omega)]; simp [SG.st, HR.hul, List.map_set]⟩, u_d⟩

set_option maxHeartbeats 4000000 in
theorem unload_c (base sb m : Nat) (V : SG) (T : Int) (x : Ent) (k : Nat) (w0 : World) (hM : SeaM base sb w0 V) (hok : SeaOk T V.st) (hmm : SeaL m V) (_hmw : m ≤ w0.heap.size) (hx : okEnt x = true) (hk : k < V.rs.length) (hkd : x.k = 4) (_hbs : base ≤ w0.heap.size) :
    CallsV Tryz.prog 94 [.pointer (some ⟨sb, 0, none⟩), .pointer (some ⟨V.gh, 0 + k * 3, none⟩), .agg #[.int .i64 x.m, .int .i64 x.k, .int .i64 x.h, .int .i64 x.p, .int .i64 x.b, .int .i64 x.t]] w0 (fun v w' => (∃ V', v = .int .i64 (unloadP V.st k x).1 ∧ SeaM base sb w' V' ∧ V'.st = (unloadP V.st k x).2) ∧ Upd (fun i => i = sb ∨ (base ≤ i ∧ i < m)) w0 w') := by
 have hB : Blk w0 sb 146 [.int .i64 V.m, .slice V.ah V.rs.length V.ch, .slice V.al V.ld.length V.cl, .slice V.au V.un.length V.cu, .int .i64 V.wk] := hM.blk
 have hH := hM.hacc
 have lt_gh := hH.lt
 have lt_sb := hB.lt
 have hsge := hM.sge
 have hrl := hok.rlen
 have hsg : V.gh < base ∨ V.gh < sb ∨ sb < V.gh := by
   rcases Nat.lt_or_ge V.gh base with q | q
   · exact .inl q
   · have := hH.neB hB (by decide) q; omega
 obtain ⟨hmh, hml, hmu, hmr⟩ := hmm
 have hmk := hmr _ (nth_mem hk)
 have hx9 := okEnt_iff hx
 have hbg : base ≤ V.gh := hH.ge (by omega)
 have hrh := hok.rhul _ (nth_mem hk)
 have hcr := (hM.cacc _ (nth_mem hk)).2
 have lt_rg := hcr.lt
 have lt_gl := hM.lacc.lt
 have lt_gu := hM.uacc.lt
 have hclen := hrh.2.2.1.len
 have hct : ∀ y ∈ (nth V.rs k).c, 0 ≤ y.t ∧ y.t ≤ 1000000000000 := fun y hy => by have := (hrh.2.2.1.2 y hy).2; omega
 have htr := fun b => tonP_range (bill := b) hct
 have hot := hok.t
 have hsr : (nth V.rs k).g < base ∨ (nth V.rs k).g < sb ∨ sb < (nth V.rs k).g := by
   rcases Nat.lt_or_ge (nth V.rs k).g base with q | q
   · exact .inl q
   · have := hcr.neB hB (by decide) q; omega
 refine f_n func94 ?_
 refine go ?_
 refine x_b fun bk2 w3 ebk2 sbk2 B4 u5 => ?_
 refine go ?_
 refine c_drawnM follows (fun _ => False) (OTl [0, 2, 4, 8, 10, 7, 12]) (by kernel_rfl) fun w9 u10 => ?_
 have zu10 := u10.size
 refine go ?_
 have D12 := ((hM.ext u5).ext u10)
 have D13 := ((hH.keep u5 (fun _ h => h)).keep u10 (fun _ h => h))
 refine x_c func138 rfl rfl (aboard_c V.gh (0 + k * 3) (nth V.rs k) x.b _ ((D13.sl (fun _ => rfl)).at_ k hk) (by omega) (by have q := D12.cacc _ (nth_mem hk); rw [q.1]; exact q.2.sl (fun _ => rfl)) hct hclen) ?_
 rintro _ w15 ⟨rfl, u16⟩ zu16
 have htb := htr x.b
 refine go ?_
 refine q_p (fun g13 => ?_) fun g13 => ?_
 ·
  refine go ?_
  refine f_1 results94 ?_
  have D20 := (D12.ext u16)
  exact ⟨⟨V, by rw [unloadP_v hk, if_pos (by omega)], D20, by rw [unloadP_v hk, if_pos (by omega)]⟩, u_d⟩
 refine go ?_
 refine c_drawnM follows (fun i => i = V.gh ∨ (i = (nth V.rs k).g ∧ base ≤ i)) (OTl [0, 2, 4, 6, 8, 10, 12, 14, 17]) (by kernel_rfl) fun w22 u23 => ?_
 have zu23 := u23.size
 refine go ?_
 refine y_neg rfl rfl rfl (by omega) ?_
 refine go ?_
 have D25 := ((D12.ext u16).ext u23)
 have hM26 := D25
 obtain ⟨-, -, -, -, rc, hrB, -, -⟩ := Acc.raw hM26.hacc (.inr (by omega))
 have hrg : rc[0 + k * 3 + 2]? = some (.slice (nth V.rs k).ao (nth V.rs k).c.length (nth V.rs k).cp) := hrB.got ((hM26.hacc.sl (fun _ => rfl)).at_ k hk 2 _ rfl)
 refine x_c func139 rfl rfl (book_c V.gh (0 + k * 3 + 2) rc 70 (nth V.rs k).ao (nth V.rs k).g (nth V.rs k).cp base (nth V.rs k).c x.b (-x.t) _ hrB hrg (hM26.cacc _ (nth_mem hk)).2 (fun hb => (hM26.cacc _ (nth_mem hk)).2.neA hM26.hacc (by decide) hb hbg) (by omega) (hrh.2.2.1.mono (by decide)) (by omega) (by omega)) ?_
 rintro v27 w28 ⟨⟨a1, g1, c1, hB1, hA1, hg1⟩, u29⟩ zu29
 have hM1 : SeaM base sb w28 { V with rs := V.rs.set k ⟨(nth V.rs k).n, (nth V.rs k).p, a1, g1, 0, c1, bookP x.b (-x.t) (nth V.rs k).c⟩ } := hM26.setH hk _ u29 (fun i h => h) rfl (Acc.setRaw (k := 3) (j := k) (o' := 2) (vs := [.slice a1 (List.length (bookP x.b (-x.t) (nth V.rs k).c)) c1]) _ (fun _ => rfl) hM26.hacc hk (Nat.le_refl 3) rfl hrB (by rw [Nat.zero_add] at hB1; exact hB1)) hA1 hg1
 refine go ?_
 refine c_drawnM follows (fun i => i = sb ∨ (i = V.gu ∧ base ≤ i)) (OTl [0, 2, 4, 6, 8, 10, 12, 14, 17]) (by kernel_rfl) fun w33 u34 => ?_
 have zu34 := u34.size
 refine go ?_
 have D36 := (hM1.ext u34)
 have hM37 := D36
 have B38 := ((((((hB.kx u5).kx u10).kx u16).kx u23).keep u29 (by omega)).kx u34)
 have hfb : Blk w33 sb 146 [.int .i64 V.m, .slice V.ah V.rs.length V.ch, .slice V.al V.ld.length V.cl, .slice V.au V.un.length V.cu, .int .i64 V.wk] := B38
 have hbc := book_c sb 3 [.int .i64 V.m, .slice V.ah V.rs.length V.ch, .slice V.al V.ld.length V.cl, .slice V.au V.un.length V.cu, .int .i64 V.wk] 146 V.au V.gu V.cu base V.un x.b x.t w33 hfb
 have hla : Acc encCrg 2 72 base w33 V.au V.gu V.cu V.un := hM37.uacc
 have hlk : CgOk 1000000000000 V.un := CgOk.mono (l := V.un) hok.un (by omega)
 have hlp : ([.int .i64 V.m, .slice V.ah V.rs.length V.ch, .slice V.al V.ld.length V.cl, .slice V.au V.un.length V.cu, .int .i64 V.wk] : List Value)[3]? = some (.slice V.au V.un.length V.cu) := rfl
 refine x_c func139 rfl rfl (hbc hlp hla (fun hb => hla.neB hfb (by decide) hb) (by omega) hlk (by omega) (by omega)) ?_
 rintro v39 w40 ⟨⟨a2, g2, c2, hB2, hA2, hg2⟩, u41⟩ zu41
 have hB3 : Blk w40 sb 146 [.int .i64 V.m, .slice V.ah V.rs.length V.ch, .slice V.al V.ld.length V.cl, .slice a2 (List.length (bookP x.b x.t V.un)) c2, .int .i64 V.wk] := hB2
 have hM2 : SeaM base sb w40 { ({ V with rs := V.rs.set k ⟨(nth V.rs k).n, (nth V.rs k).p, a1, g1, 0, c1, bookP x.b (-x.t) (nth V.rs k).c⟩ } : SG) with un := bookP x.b x.t V.un, au := a2, gu := g2, cu := c2 } := hM37.setU u41 (fun i h => h) (by simpa [SG.cells] using hB3) hA2 hg2
 refine go ?_
 refine f_1 results94 ?_
 exact ⟨⟨_, by rw [unloadP_v hk, if_neg (by omega)], hM2, by rw [unloadP_v hk, if_neg (by omega)]; simp [SG.st, HR.hul, List.map_set]⟩, u_d⟩

set_option maxHeartbeats 4000000 in
theorem sail_c (base sb m : Nat) (V : SG) (T : Int) (x : Ent) (k : Nat) (w0 : World) (hM : SeaM base sb w0 V) (hok : SeaOk T V.st) (hmm : SeaL m V) (_hmw : m ≤ w0.heap.size) (hx : okEnt x = true) (hk : k < V.rs.length) (hkd : x.k = 3) (_hbs : base ≤ w0.heap.size) :
    CallsV Tryz.prog 93 [.pointer (some ⟨sb, 0, none⟩), .pointer (some ⟨V.gh, 0 + k * 3, none⟩), .agg #[.int .i64 x.m, .int .i64 x.k, .int .i64 x.h, .int .i64 x.p, .int .i64 x.b, .int .i64 x.t]] w0 (fun v w' => (∃ V', v = .int .i64 (sailP V.st k x).1 ∧ SeaM base sb w' V' ∧ V'.st = (sailP V.st k x).2) ∧ Upd (fun i => i = sb ∨ (base ≤ i ∧ i < m)) w0 w') := by
 have hB : Blk w0 sb 146 [.int .i64 V.m, .slice V.ah V.rs.length V.ch, .slice V.al V.ld.length V.cl, .slice V.au V.un.length V.cu, .int .i64 V.wk] := hM.blk
 have hH := hM.hacc
 have lt_gh := hH.lt
 have lt_sb := hB.lt
 have hsge := hM.sge
 have hrl := hok.rlen
 have hsg : V.gh < base ∨ V.gh < sb ∨ sb < V.gh := by
   rcases Nat.lt_or_ge V.gh base with q | q
   · exact .inl q
   · have := hH.neB hB (by decide) q; omega
 obtain ⟨hmh, hml, hmu, hmr⟩ := hmm
 have hmk := hmr _ (nth_mem hk)
 have hx9 := okEnt_iff hx
 have hbg : base ≤ V.gh := hH.ge (by omega)
 have hrh := hok.rhul _ (nth_mem hk)
 have hcr := (hM.cacc _ (nth_mem hk)).2
 have lt_rg := hcr.lt
 have lt_gl := hM.lacc.lt
 have lt_gu := hM.uacc.lt
 have hclen := hrh.2.2.1.len
 have hct : ∀ y ∈ (nth V.rs k).c, 0 ≤ y.t ∧ y.t ≤ 1000000000000 := fun y hy => by have := (hrh.2.2.1.2 y hy).2; omega
 have htr := fun b => tonP_range (bill := b) hct
 have hot := hok.t
 have hsr : (nth V.rs k).g < base ∨ (nth V.rs k).g < sb ∨ sb < (nth V.rs k).g := by
   rcases Nat.lt_or_ge (nth V.rs k).g base with q | q
   · exact .inl q
   · have := hcr.neB hB (by decide) q; omega
 refine f_n func93 ?_
 refine go ?_
 refine x_b fun bk2 w3 ebk2 sbk2 B4 u5 => ?_
 refine go ?_
 refine c_drawnM follows (fun _ => False) (OTl [0, 2, 4, 6, 8, 10, 12, 14]) (by kernel_rfl) fun w8 u9 => ?_
 have zu9 := u9.size
 refine go ?_
 have D11 := ((hH.keep u5 (fun _ h => h)).keep u9 (fun _ h => h))
 refine y_load isAgg3 rfl rfl rfl (((D11.sl (fun _ => rfl)).at_ k hk) 1 _ rfl) (fun h => h) ?_
 refine go ?_
 refine q_p (fun g16 => ?_) fun g16 => ?_
 ·
  refine go ?_
  refine f_1 results93 ?_
  have D15 := ((hM.ext u5).ext u9)
  exact ⟨⟨V, by rw [sailP_v hk, if_pos (by omega)], D15, by rw [sailP_v hk, if_pos (by omega)]⟩, u_d⟩
 have hmr := mul_range (a := tonP 0 (nth V.rs k).c) (m := 100000) (b := max (x.p - (nth V.rs k).p) (-(x.p - (nth V.rs k).p))) (n := 100000) (by have := htr 0; omega) (by omega)
 have hwk := hok.wk
 change 0 ≤ V.wk ∧ V.wk ≤ T * 100000 at hwk
 refine go ?_
 refine c_drawnM follows (fun i => i = sb) (.look 0 (.look 1 (.look 2 (.look 3 (.look 5 (.look 7 (.look 8 (.look 9 (.look 10 (.act 4 (.act 6 (.look 11 (.look 12 (.look 13 (.look 14 (.look 15 (.act 16 .done .stop)))))) .stop) (.act 6 (.look 11 (.act 4 (.look 12 (.look 13 (.look 14 (.look 15 (.act 16 .done .stop))))) .stop)) .stop))))))))))) (by kernel_rfl) fun w17 u18 => ?_
 have zu18 := u18.size
 refine go ?_
 refine y_neg rfl rfl rfl (by omega) (y_max rfl rfl rfl rfl (s_or ?_ ?_))
 ·
  refine go ?_
  have D20 := (((hM.ext u5).ext u9).ext u18)
  have D21 := (((hH.keep u5 (fun _ h => h)).keep u9 (fun _ h => h)).keep u18 (fun _ h => h))
  refine x_c func138 rfl rfl (aboard_c V.gh (0 + k * 3) (nth V.rs k) 0 _ ((D21.sl (fun _ => rfl)).at_ k hk) (by omega) (by have q := D20.cacc _ (nth_mem hk); rw [q.1]; exact q.2.sl (fun _ => rfl)) hct hclen) ?_
  rintro _ w23 ⟨rfl, u24⟩ zu24
  have htb := htr 0
  refine go ?_
  have D27 := (D20.ext u24)
  have hM28 := D27
  refine x_s fun w29 sw29 B31 u30 => ?_
  have hM1 : SeaM base sb w29 { V with wk := V.wk + tonP 0 (nth V.rs k).c * max (x.p - (nth V.rs k).p) (-(x.p - (nth V.rs k).p)) } := hM28.setB (m := V.m) u30 B31
  refine go ?_
  have hM34 := hM1
  have D35 := ((D21.keep u24 (fun _ h => h)).keep u30 (fun hb => show ¬ (V.gh = sb) by first | omega | assumption))
  refine t_storeA (vs := [.int .i64 x.p]) (j := k) (o' := 1) (k := 3) (⟨(nth V.rs k).n, x.p, (nth V.rs k).ao, (nth V.rs k).g, (nth V.rs k).o, (nth V.rs k).cp, (nth V.rs k).c⟩ : HR) (fun _ => rfl) sizeOf3 rfl rfl (by omega) rfl D35 (by first | omega | (simp only [List.length_set, eRuns_len]; omega)) rfl rfl (by decide) (by simp [Value.oneCell']) rfl (fun w36 R38 u37 => ?_)
  have zu37 := u37.size
  have hM2 := hM34.setH (k := k) hk (⟨(nth V.rs k).n, x.p, (nth V.rs k).ao, (nth V.rs k).g, (nth V.rs k).o, (nth V.rs k).cp, (nth V.rs k).c⟩ : HR) u37 (fun i h => .inl h) (hM34.cacc _ (nth_mem hk)).1 R38 ((hM34.cacc _ (nth_mem hk)).2.keep u37 (fun hb e => (hM34.cacc _ (nth_mem hk)).2.neA hM34.hacc (by decide) hb hbg e)) (.inl rfl)
  refine go ?_
  refine f_1 results93 ?_
  exact ⟨⟨_, by rw [sailP_v hk, if_neg (by omega)], hM2, by rw [sailP_v hk, if_neg (by omega)]; simp [SG.st, HR.hul, List.map_set]⟩, u_d⟩
 refine go ?_
 have D41 := (((hM.ext u5).ext u9).ext u18)
 have D42 := (((hH.keep u5 (fun _ h => h)).keep u9 (fun _ h => h)).keep u18 (fun _ h => h))
 refine x_c func138 rfl rfl (aboard_c V.gh (0 + k * 3) (nth V.rs k) 0 _ ((D42.sl (fun _ => rfl)).at_ k hk) (by omega) (by have q := D41.cacc _ (nth_mem hk); rw [q.1]; exact q.2.sl (fun _ => rfl)) hct hclen) ?_
 rintro _ w44 ⟨rfl, u45⟩ zu45
 have htb := htr 0
 refine go ?_
 have D48 := (D41.ext u45)
 have hM49 := D48
 refine x_s fun w50 sw50 B52 u51 => ?_
 have hM1 : SeaM base sb w50 { V with wk := V.wk + tonP 0 (nth V.rs k).c * max (x.p - (nth V.rs k).p) (-(x.p - (nth V.rs k).p)) } := hM49.setB (m := V.m) u51 B52
 refine go ?_
 have hM55 := hM1
 have D56 := ((D42.keep u45 (fun _ h => h)).keep u51 (fun hb => show ¬ (V.gh = sb) by first | omega | assumption))
 refine t_storeA (vs := [.int .i64 x.p]) (j := k) (o' := 1) (k := 3) (⟨(nth V.rs k).n, x.p, (nth V.rs k).ao, (nth V.rs k).g, (nth V.rs k).o, (nth V.rs k).cp, (nth V.rs k).c⟩ : HR) (fun _ => rfl) sizeOf3 rfl rfl (by omega) rfl D56 (by first | omega | (simp only [List.length_set, eRuns_len]; omega)) rfl rfl (by decide) (by simp [Value.oneCell']) rfl (fun w57 R59 u58 => ?_)
 have zu58 := u58.size
 have hM2 := hM55.setH (k := k) hk (⟨(nth V.rs k).n, x.p, (nth V.rs k).ao, (nth V.rs k).g, (nth V.rs k).o, (nth V.rs k).cp, (nth V.rs k).c⟩ : HR) u58 (fun i h => .inl h) (hM55.cacc _ (nth_mem hk)).1 R59 ((hM55.cacc _ (nth_mem hk)).2.keep u58 (fun hb e => (hM55.cacc _ (nth_mem hk)).2.neA hM55.hacc (by decide) hb hbg e)) (.inl rfl)
 refine go ?_
 refine f_1 results93 ?_
 exact ⟨⟨_, by rw [sailP_v hk, if_neg (by omega)], hM2, by rw [sailP_v hk, if_neg (by omega)]; simp [SG.st, HR.hul, List.map_set]⟩, u_d⟩

end Go.Proofs.YtagmkfbbhfaceaaGreatDoor
namespace Go.Proofs.YtagmkfbbhfaceaaGreatDoor
open Go Go.RowKit
/-- In block r lies a map with the int keys ks, each true. -/
def SetI (ks : List Int) (w : World) (r : Nat) : Prop := ∃ es c, w.heap[r]? = some (.map es c) ∧ es.toList.map (fun e => (e.key, e.val)) = ks.map (fun k => (Value.int .i64 k, Value.bool true))
theorem SetI.lt {ks : List Int} {w : World} {r : Nat} (h : SetI ks w r) : r < w.heap.size := by obtain ⟨es, c, h, _⟩ := h; exact lt_of_block h
theorem SetI.keep {ks : List Int} {w : World} {r : Nat} {w' : World} {S : Nat → Prop} (h : SetI ks w r) (u : Upd S w w') (hn : ¬ S r) : SetI ks w' r := by
  obtain ⟨es, c, h1, h2⟩ := h
  exact ⟨es, c, (u.block r (lt_of_block h1) hn).trans h1, h2⟩
theorem SetI.ofMemo {w : World} {r : Nat} (h : ∀ F, Memo F w r) : SetI [] w r := by
  obtain ⟨es, c, h1, h2⟩ := h (fun _ _ _ => False)
  refine ⟨es, c, h1, ?_⟩
  cases he : es.toList with
  | nil => rfl
  | cons e l => obtain ⟨_, _, _, hf⟩ := h2 e (by rw [he]; simp); exact hf.elim
theorem SetI.notBlk {ks : List Int} {w : World} {r b : Nat} {t : TypeId} {cs : List Value} (h : SetI ks w r) (hb : Blk w b t cs) : b ≠ r := fun e => by
  obtain ⟨es, c, h1, _⟩ := h
  subst e
  have h2 : w.heap[b]? = _ := hb
  rw [h1] at h2; cases h2
section steps
variable {rd : Option Nat} {P : Program} {ops : Array Oper} {Q : Exit → Act → World → Prop} {N : Nat} {ds : List Deferred} {rest : List Oper} {L : Slots} {w : World}
variable {d : Nat} {ty : TypeId} {pos : String} {aft : Array Edge} {g : Option (Nat × Bool)}
theorem checkKeyInI {K : TypeId} (hK : P.underlying K = some (.int .i64)) (em : Bool) (n : Nat) (a : Int) (w : World) : (Instr.checkKey em (n + 1) K (.int .i64 a)).run P w = .ok () w := by
  simp [Instr.checkKey, run_underlying hK]
theorem checkKeyI {K : TypeId} (hK : P.underlying K = some (.int .i64)) (em : Bool) (a : Int) (w : World) : (Instr.checkKey em 10000 K (.int .i64 a)).run P w = .ok () w :=
  checkKeyInI hK em 9999 a w
end steps
end Go.Proofs.YtagmkfbbhfaceaaGreatDoor
