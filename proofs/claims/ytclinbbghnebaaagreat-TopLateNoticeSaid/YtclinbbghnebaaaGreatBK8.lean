/-
  Part 8 of the proof: contracts and plain laws. Conditions: none.
-/
import Derived.Shelf.SlSortCmp.WholeK
import Derived.Shelf.SlSortCmp.NoneTotal
import Derived.Ground.SlsfProg
import Derived.Test.YtclinbbghnebaaaGreatProg
import Derived.Test.YtclinbbghnebaaaGreatBK7
namespace Go.Proofs
open Go.Shelf
def YtclinbbghnebaaaGreat.sortF_ren : Go.Shelf.Ren := ⟨fun | 6 => 100 | 15 => 92 | 14 => 172 | 28 => 158 | 29 => 159 | 20 => 210 | 21 => 211 | 22 => 212 | 23 => 213 | 24 => 214 | 25 => 215 | 26 => 216 | 27 => 217 | 46 => 263 | 47 => 204 | 48 => 205 | 49 => 264 | 50 => 265 | 57 => 290 | n => n, fun | 22 => 128 | 24 => 138 | 25 => 226 | 3 => 3 | 39 => 213 | 0 => 0 | 53 => 308 | 55 => 310 | 4 => 4 | 46 => 302 | 45 => 301 | 50 => 149 | 5 => 5 | 9 => 9 | 66 => 358 | 70 => 362 | 76 => 400 | 77 => 232 | n => n, fun | n => n⟩
theorem YtclinbbghnebaaaGreat.sortF : Go.Proofs.SlLaysF0.n6 Tryz.prog YtclinbbghnebaaaGreat.sortF_ren := {
  mixed := by kernel_rfl
  f6 := ⟨Tryz.f100.name, by decide, Tryz.func100.trans (congrArg some (by kernel_rfl))⟩
  f14 := ⟨Tryz.f172.name, by decide, Tryz.func172.trans (congrArg some (by kernel_rfl))⟩
  f15 := Tryz.func92.trans (congrArg some (by kernel_rfl))
  f20 := ⟨Tryz.f210.name, by decide, Tryz.func210.trans (congrArg some (by kernel_rfl))⟩
  f21 := ⟨Tryz.f211.name, by decide, Tryz.func211.trans (congrArg some (by kernel_rfl))⟩
  f22 := ⟨Tryz.f212.name, by decide, Tryz.func212.trans (congrArg some (by kernel_rfl))⟩
  f23 := ⟨Tryz.f213.name, by decide, Tryz.func213.trans (congrArg some (by kernel_rfl))⟩
  f24 := ⟨Tryz.f214.name, by decide, Tryz.func214.trans (congrArg some (by kernel_rfl))⟩
  f25 := ⟨Tryz.f215.name, by decide, Tryz.func215.trans (congrArg some (by kernel_rfl))⟩
  f26 := ⟨Tryz.f216.name, by decide, Tryz.func216.trans (congrArg some (by kernel_rfl))⟩
  f27 := ⟨Tryz.f217.name, by decide, Tryz.func217.trans (congrArg some (by kernel_rfl))⟩
  f28 := Tryz.func158.trans (congrArg some (by kernel_rfl))
  f29 := Tryz.func159.trans (congrArg some (by kernel_rfl))
  f46 := ⟨Tryz.f263.name, by decide, Tryz.func263.trans (congrArg some (by kernel_rfl))⟩
  f47 := Tryz.func204.trans (congrArg some (by kernel_rfl))
  f48 := Tryz.func205.trans (congrArg some (by kernel_rfl))
  f49 := ⟨Tryz.f264.name, by decide, Tryz.func264.trans (congrArg some (by kernel_rfl))⟩
  f50 := ⟨Tryz.f265.name, by decide, Tryz.func265.trans (congrArg some (by kernel_rfl))⟩
  f57 := ⟨Tryz.f290.name, by decide, Tryz.func290.trans (congrArg some (by kernel_rfl))⟩
  t0 := Tryz.underlying0
  a0 := Tryz.isAgg0
  z0 := Tryz.sizeOf0
  v0 := Tryz.zeroValue0
  t3 := Tryz.underlying3
  a3 := Tryz.isAgg3
  z3 := Tryz.sizeOf3
  v3 := Tryz.zeroValue3
  t4 := Tryz.underlying4
  a4 := Tryz.isAgg4
  z4 := Tryz.sizeOf4
  v4 := Tryz.zeroValue4
  t5 := Tryz.underlying5
  a5 := Tryz.isAgg5
  z5 := Tryz.sizeOf5
  v5 := Tryz.zeroValue5
  t9 := Tryz.underlying9
  a9 := Tryz.isAgg9
  z9 := Tryz.sizeOf9
  v9 := Tryz.zeroValue9
  t22 := Tryz.underlying128
  a22 := Tryz.isAgg128
  z22 := Tryz.sizeOf128
  v22 := Tryz.zeroValue128
  t25 := Tryz.underlying226
  a25 := Tryz.isAgg226
  z25 := Tryz.sizeOf226
  v25 := Tryz.zeroValue226
  t39 := Tryz.underlying213
  a39 := Tryz.isAgg213
  z39 := Tryz.sizeOf213
  v39 := Tryz.zeroValue213
  t45 := Tryz.underlying301
  a45 := Tryz.isAgg301
  z45 := Tryz.sizeOf301
  v45 := Tryz.zeroValue301
  t46 := Tryz.underlying302
  a46 := Tryz.isAgg302
  z46 := Tryz.sizeOf302
  v46 := Tryz.zeroValue302
  t50 := Tryz.underlying149
  a50 := Tryz.isAgg149
  z50 := Tryz.sizeOf149
  v50 := Tryz.zeroValue149
  t53 := Tryz.underlying308
  a53 := Tryz.isAgg308
  z53 := Tryz.sizeOf308
  v53 := Tryz.zeroValue308
  t55 := Tryz.underlying310
  a55 := Tryz.isAgg310
  z55 := Tryz.sizeOf310
  v55 := Tryz.zeroValue310
  t66 := Tryz.underlying358
  a66 := Tryz.isAgg358
  z66 := Tryz.sizeOf358
  v66 := Tryz.zeroValue358
  t70 := Tryz.underlying362
  a70 := Tryz.isAgg362
  z70 := Tryz.sizeOf362
  v70 := Tryz.zeroValue362
  t76 := Tryz.underlying400
  a76 := Tryz.isAgg400
  z76 := Tryz.sizeOf400
  v76 := Tryz.zeroValue400
  t77 := Tryz.underlying232
  a77 := Tryz.isAgg232
  z77 := Tryz.sizeOf232
  v77 := Tryz.zeroValue232 }
end Go.Proofs
namespace Go.Proofs.YtclinbbghnebaaaGreat
open Go Go.RowKit Go.Proofs.Tryz
set_option maxRecDepth 10000

/-- Free times within bounds: their begins can be subtracted. -/
structure FrB where
  v : Fre
  h : 0 ≤ v.f ∧ v.f ≤ 100000
instance : Inhabited FrB := ⟨⟨⟨0, 0⟩, by decide⟩⟩
def encFrB (x : FrB) : List Value := encFre x.v
def cmpFr (a b : Fre) : Int := a.f - b.f
def cmpFrB (a b : FrB) : Int := cmpFr a.v b.v
theorem cmpFrB_swo : Go.Sort.SWO (ltOf cmpFrB) where
  irrefl x := by unfold ltOf cmpFrB cmpFr; rw [decide_eq_false_iff_not]; omega
  trans x y z h1 h2 := by
    unfold ltOf cmpFrB cmpFr at *
    rw [decide_eq_true_eq] at *
    omega
  ntrans x y z h1 h2 := by
    unfold ltOf cmpFrB cmpFr at *
    rw [decide_eq_false_iff_not] at *
    omega
theorem Acc.map {α β : Type} {f : α → β} {enc : β → List Value} {k : Nat} {e : TypeId} {base : Nat} {w : World} {ao : Option Addr} {g cap : Nat} {zs : List α} : Acc (fun x => enc (f x)) k e base w ao g cap zs ↔ Acc enc k e base w ao g cap (zs.map f) := by
  constructor
  · rintro ⟨h1, h2⟩
    exact ⟨h1, by simpa [List.flatMap_map] using h2⟩
  · rintro ⟨h1, h2⟩
    exact ⟨h1, by simpa [List.flatMap_map] using h2⟩
theorem own101 : Own Tryz.prog 101 := ⟨Tryz.f101, func101, by kernel_rfl, by kernel_rfl⟩
theorem count1_c (x y : Fre) (w0 : World) (hx : 0 ≤ x.f ∧ x.f ≤ 100000) (hy : 0 ≤ y.f ∧ y.f ≤ 100000) :
    CallsV Tryz.prog 101 [.agg #[.int .i64 x.f, .int .i64 x.t], .agg #[.int .i64 y.f, .int .i64 y.t]] w0 (fun v w' => (v = .int .i64 (cmpFr x y) ∧ Gr w0 w') ∧ Ext w0 w') := by
 refine f_n func101 ?_
 refine go ?_
 refine t_boxG (cs := [.int .i64 x.f, .int .i64 x.t]) rfl rfl rfl rfl (fun bk2 w3 ebk2 sbk2 B4 u5 Gu5 => ?_)
 refine t_boxG (cs := [.int .i64 y.f, .int .i64 y.t]) rfl rfl rfl rfl (fun bk7 w8 ebk7 sbk7 B9 u10 Gu10 => ?_)
 refine go ?_
 refine f_1 results101 ?_
 exact ⟨⟨rfl, (((Gr.refl _).trans Gu5).trans Gu10)⟩, u_d⟩

theorem count1_ok : CmpOk Tryz.prog 101 encFrB cmpFrB := fun x y W => by
  refine Calls.mono (count1_c x.v y.v W x.h y.h) ?_
  rintro e w' ⟨v, rfl, ⟨rfl, hg⟩, _⟩
  exact ⟨rfl, hg.grow⟩
theorem sortFr_c (xs : List Fre) (hok : ∀ x ∈ xs, 0 ≤ x.f ∧ x.f ≤ 100000) (ao : Option Addr) (gb cap base : Nat) (w : World) (ha : Acc encFre 2 138 base w ao gb cap xs) (hl : xs.length ≤ 1000000) :
    CallsV Tryz.prog 100 [.slice ao xs.length cap, .func (.func 101) #[] #[]] w fun v w' => (v = .tuple #[] ∧ ∃ ys, List.Perm ys xs ∧ Asc cmpFr ys ∧ Acc encFre 2 138 base w' ao gb cap ys) ∧ Upd (fun i => i = gb ∧ base ≤ i) w w' := by
  have hm : (xs.pmap FrB.mk hok : List FrB).map FrB.v = xs := by rw [List.map_pmap]; simp
  have hlen : (xs.pmap FrB.mk hok : List FrB).length = xs.length := List.length_pmap
  have h := sort_c YtclinbbghnebaaaGreat.sortF 2 (by decide) isAgg138 sizeOf138 encFrB (fun _ => rfl) (by intro x; simp [encFrB, encFre, Value.oneCell']) cmpFrB cmpFrB_swo 101 own101 count1_ok 138 base ao gb cap (xs.pmap FrB.mk hok : List FrB) w ((Acc.map (f := FrB.v) (enc := encFre)).2 (by rw [hm]; exact ha)) (by rw [hlen]; exact hl)
  rw [hlen] at h
  refine Calls.mono h ?_
  rintro e w' ⟨v, rfl, ys, hp, hs, hA, hu, rfl⟩
  refine ⟨_, rfl, ⟨rfl, ys.map FrB.v, ?_, ?_, (Acc.map (f := FrB.v) (enc := encFre)).1 hA⟩, hu⟩
  · have := hp.map FrB.v
    rw [hm] at this
    exact this
  · intro i j hij hj
    rw [List.length_map] at hj
    have h9 := hs i j hij hj
    rw [nth_eq (by rw [List.length_map]; exact hj), nth_eq (by rw [List.length_map]; omega), List.getElem_map, List.getElem_map]
    rw [nth_eq hj, nth_eq (by omega)] at h9
    exact h9

theorem clipF_c (xs : List Fre) (ao : Option Addr) (cap : Nat) (w0 : World) (hc : xs.length ≤ cap) :
    CallsV Tryz.prog 102 [.slice ao xs.length cap] w0 (fun v w' => v = .slice (subAddr ao xs.length 0 2) xs.length xs.length ∧ Ext w0 w') := by
 refine f_n func102 ?_
 refine go ?_
 refine t_sliceC underlying128 sizeOf138 rfl rfl rfl rfl rfl rfl rfl hc ?_
 refine go ?_
 refine f_1 results102 ?_
 exact ⟨rfl, u_d⟩

end Go.Proofs.YtclinbbghnebaaaGreat
namespace Go.Proofs.YtclinbbghnebaaaGreat
open Go Go.RowKit Go.Proofs.Tryz
set_option maxRecDepth 10000

/-- Laytime that is used, and the minute that it has come to. -/
structure CtS where
  u : Int
  a : Int
def ctUse (L en : Int) (s : CtS) (f : Fre) : Int := min (max 0 (min f.f en - s.a)) (L - s.u)
def ctStep (L en : Int) (s : CtS) (f : Fre) : CtS := if s.u = L then s else ⟨s.u + ctUse L en s f, if s.u + ctUse L en s f < L then max (s.a + ctUse L en s f) (min f.t en) else s.a + ctUse L en s f⟩
def ctS (L en b : Int) (fs : List Fre) : Nat → CtS
  | 0 => ⟨0, b⟩
  | k + 1 => ctStep L en (ctS L en b fs k) (nth fs k)
theorem ctS_stop {L en b : Int} {fs : List Fre} {k : Nat} (h : (ctS L en b fs k).u = L) : ∀ j, ctS L en b fs (k + j) = ctS L en b fs k
  | 0 => rfl
  | j + 1 => by
    show ctStep L en (ctS L en b fs (k + j)) (nth fs (k + j)) = _
    rw [ctS_stop h j]
    exact if_pos h
theorem ctUse_rng {L en : Int} {s : CtS} {f : Fre} (hu : s.u ≤ L) (hf : 0 ≤ f.f ∧ f.f ≤ 100000) (ha : 0 ≤ s.a ∧ s.a ≤ 200000) : 0 ≤ ctUse L en s f ∧ ctUse L en s f ≤ L - s.u ∧ s.a + ctUse L en s f ≤ 200000 := by
  unfold ctUse; omega
structure Lc where
  b : Int
  u : Int
  o : Int
  s : Int
def encLc (x : Lc) : List Value := [.int .i64 x.b, .int .i64 x.u, .int .i64 x.o, .int .i64 x.s]
/-- Laytime counted. -/
def cntP (L en b : Int) (ys : List Fre) : Lc :=
  let s := ctS L en b (ys ++ [⟨en, en⟩]) (ys.length + 1)
  let o := if s.u = L then max 0 (en - s.a) else 0
  ⟨b, s.u, o, if o = 0 then L - s.u else 0⟩
set_option maxHeartbeats 4000000 in
theorem count_c (px : Nat) (c : Chr) (ws : List Low) (aw : Option Addr) (cw r : Nat) (aE : Option Addr) (gE cE base : Nat) (ex : List Fre) (m : List (Int × Msg)) (n1 en : Msg) (w0 : World) (hpx : Blk w0 px 224 [.int .i64 c.s, .int .i64 c.c, .int .i64 c.k, .int .i64 c.r, .int .i64 c.n, .int .i64 c.l, .int .i64 c.o, .int .i64 c.d, .int .i64 c.e, .int .i64 c.m, .slice aw ws.length cw, .map (some r), .slice aE ex.length cE]) (hm : MapG cd1 m w0 r) (hA : Acc encFre 2 138 base w0 aE gE cE ex) (_hb : base ≤ w0.heap.size) (hn1 : gtG m 1 = some n1) (hn4 : gtG m 4 = some en) (hb1 : 0 ≤ n1.m ∧ n1.m ≤ 100000) (hen : 0 ≤ en.m ∧ en.m ≤ 100000) (hco : 0 ≤ c.o ∧ c.o ≤ 100000) (hcl : 0 ≤ c.l ∧ c.l ≤ 100000) (hexb : ∀ x ∈ ex, (0 ≤ x.f ∧ x.f ≤ 100000) ∧ (0 ≤ x.t ∧ x.t ≤ 100000)) (hexl : ex.length ≤ 1000) :
    CallsV Tryz.prog 39 [.pointer (some ⟨px, 0, none⟩)] w0 (fun v w' => (∃ ys, List.Perm ys ex ∧ Asc cmpFr ys ∧ v = .agg (encLc (cntP c.l en.m (n1.m + c.o) ys)).toArray) ∧ Upd (fun i => i = gE ∧ base ≤ i) w0 w') := by
 have hcE := hA.cap_le
 have hpxl := hpx.lt
 have hml := hm.lt
 have hgl := hA.lt
 have hgr : gE < base ∨ gE ≠ r := (Nat.lt_or_ge _ _).imp_right (fun h => hA.neMap hm h)
 have hgp : gE < base ∨ gE ≠ px := (Nat.lt_or_ge _ _).imp_right (fun h => hA.neBlk hpx (by decide) h)
 refine f_n func39 ?_
 refine go ?_
 refine x_n fun bk2 w3 ebk2 sbk2 B4 u5 => ?_
 refine go ?_
 refine c_drawnM follows (fun i => i = bk2) (OTl [0, 2, 4, 6, 12, 14, 16, 18, 20, 9, 10, 22, 24, 27]) (by kernel_rfl) fun w8 u9 => ?_
 have zu9 := u9.size
 refine go ?_
 have D11 := ((hm.keep u5 (fun h => h)).keep u9 (fun h => h))
 refine t_getG (cd := cd1) (a := (1 : Int)) (m := m) (z := .agg #[.int .i64 0, .int .i64 0, .int .i64 0, .int .i64 0, .int .i64 0, .int .i64 0]) key1_ok underlying222 zeroValue135 rfl rfl rfl rfl D11 (t_same 12 (v := .agg #[.int .i64 n1.c, .int .i64 n1.n, .int .i64 n1.r, .int .i64 n1.k, .int .i64 n1.m, .int .i64 n1.v]) rfl (by rw [hn1]; rfl) ?_)
 refine go ?_
 refine x_s fun w12 sw12 B14 u13 => ?_
 refine go ?_
 refine c_drawnM follows (fun _ => False) (OTl [0, 2, 4, 6, 8, 10, 16, 13, 14, 18]) (by kernel_rfl) fun w17 u18 => ?_
 have zu18 := u18.size
 refine go ?_
 have D20 := ((D11.keep u13 (show ¬ (r = bk2) by omega)).keep u18 (fun h => h))
 refine t_getG (cd := cd1) (a := (4 : Int)) (m := m) (z := .agg #[.int .i64 0, .int .i64 0, .int .i64 0, .int .i64 0, .int .i64 0, .int .i64 0]) key1_ok underlying222 zeroValue135 rfl rfl rfl rfl D20 (t_same 27 (v := .agg #[.int .i64 en.c, .int .i64 en.n, .int .i64 en.r, .int .i64 en.k, .int .i64 en.m, .int .i64 en.v]) rfl (by rw [hn4]; rfl) ?_)
 refine go ?_
 have D22 := ((((hA.keep u5 (fun _ h => h)).keep u9 (fun _ h => h)).keep u13 (fun hb9 => show ¬ (gE = bk2) by first | omega | assumption)).keep u18 (fun _ h => h))
 refine x_c func100 rfl rfl (sortFr_c ex (fun x hx => (hexb x hx).1) aE gE cE base _ D22 (by omega)) ?_
 rintro _ w24 ⟨⟨rfl, ys, hyp, hya, hyA⟩, u25⟩ zu25
 have hysl := hyp.length_eq
 have lt_gE := hyA.lt
 refine go ?_
 refine x_c func102 rfl rfl (clipF_c ex aE cE _ hcE) ?_
 rintro _ w31 ⟨rfl, u32⟩ zu32
 refine go ?_
 refine x_l fun bk35 w36 ebk35 sbk35 B37 u38 => ?_
 have D40 := ((hyA.keep u32 (fun _ h => h)).keep u38 (fun _ h => h))
 refine t_appClip (z := .agg #[.int .i64 0, .int .i64 0]) (bytes := 16) (k := 2) (enc := encFre) (⟨en.m, en.m⟩ : Fre) underlying128 (by kernel_rfl) rfl (by decide) (fun _ => rfl) (by intro x; simp [encFre, Value.oneCell']) rfl rfl rfl rfl hysl.symm (by rw [subAddr0]; exact D40.sl (fun _ => rfl)) B37 (by omega) (by decide) (fun gF cF w41 A42 u43 hgF => ?_)
 have zu43 := u43.size
 have lt_gF := A42.lt
 have hfsl : (ys ++ [(⟨en.m, en.m⟩ : Fre)]).length = ys.length + 1 := List.length_append
 have hfsb : ∀ x ∈ (ys ++ [(⟨en.m, en.m⟩ : Fre)]), (0 ≤ x.f ∧ x.f ≤ 100000) ∧ (0 ≤ x.t ∧ x.t ≤ 100000) := fun x hx => by
   rcases List.mem_append.1 hx with h | h
   · exact hexb x (hyp.mem_iff.1 h)
   · rw [List.mem_singleton.1 h]; exact ⟨hen, hen⟩
 refine go ?_
 have B45 := (((((B14.kx u18).keep u25 (by omega)).kx u32).kx u38).kx u43)
 refine x_l1 (fun i => i = bk2) [0, 2, 4, 43, 44] (fun (k : Nat) => [(3, .int .i64 ((ctS c.l en.m (n1.m + c.o) (ys ++ [(⟨en.m, en.m⟩ : Fre)]) k).a)), (45, .int .i64 (k : Int))]) (fun k w => Blk w bk2 52 [.int .i64 (n1.m + c.o), .int .i64 ((ctS c.l en.m (n1.m + c.o) (ys ++ [(⟨en.m, en.m⟩ : Fre)]) k).u), .int .i64 0, .int .i64 0] ∧ (k ≤ ys.length + 1) ∧ (0 ≤ (ctS c.l en.m (n1.m + c.o) (ys ++ [(⟨en.m, en.m⟩ : Fre)]) k).u ∧ (ctS c.l en.m (n1.m + c.o) (ys ++ [(⟨en.m, en.m⟩ : Fre)]) k).u ≤ c.l) ∧ (0 ≤ (ctS c.l en.m (n1.m + c.o) (ys ++ [(⟨en.m, en.m⟩ : Fre)]) k).a ∧ (ctS c.l en.m (n1.m + c.o) (ys ++ [(⟨en.m, en.m⟩ : Fre)]) k).a ≤ 200000)) (fun k => ys.length + 1 - k) 0 ⟨B45, (Nat.zero_le _), (by show (0 : Int) ≤ 0 ∧ (0 : Int) ≤ c.l; omega), (by show 0 ≤ n1.m + c.o ∧ n1.m + c.o ≤ 200000; omega)⟩ ?_
 rintro k w47 ⟨I49, hk, hu9, ha9⟩ u48 zu48 K46 hK46
 refine go ?_
 refine q_p (fun g46 => ?_) fun g46 => ?_
 ·
  have hfk := hfsb _ (nth_mem (xs := (ys ++ [(⟨en.m, en.m⟩ : Fre)])) (i := k) (by omega))
  refine go ?_
  have D55 := (A42.keep u48 (fun _hb => show ¬ (gF = bk2) by first | omega | assumption))
  refine g_i k (D55.sl (fun _ => rfl)) (fun _ => ?_)
  refine go ?_
  refine x_n fun bk57 w58 ebk57 sbk57 B59 u60 => ?_
  refine x_s fun w62 sw62 B64 u63 => ?_
  refine go ?_
  refine c_drawnM follows (fun _ => False) (OTl [0, 2, 4, 6, 8, 10, 12, 14]) (by kernel_rfl) fun w68 u69 => ?_
  have zu69 := u69.size
  refine go ?_
  refine q_p (fun g56 => ?_) fun g56 => ?_
  ·
   have hfin : (ctS c.l en.m (n1.m + c.o) (ys ++ [(⟨en.m, en.m⟩ : Fre)]) (ys.length + 1)) = (ctS c.l en.m (n1.m + c.o) (ys ++ [(⟨en.m, en.m⟩ : Fre)]) k) := by have := ctS_stop g56 (ys.length + 1 - k); rwa [show k + (ys.length + 1 - k) = ys.length + 1 by omega] at this
   refine go ?_
   refine c_drawnM follows (fun _ => False) (OTl [0, 2, 4, 6, 8, 10, 12, 14]) (by kernel_rfl) fun w73 u74 => ?_
   have zu74 := u74.size
   refine go ?_
   refine q_p (fun g104 => ?_) fun g104 => ?_
   ·
    refine go ?_
    refine t_max rfl rfl rfl rfl ?_
    refine go ?_
    refine x_s fun w76 sw76 B78 u77 => ?_
    refine go ?_
    refine q_p (fun g112 => ?_) fun g112 => ?_
    ·
     refine c_drawnM follows (fun i => i = bk2) (OTl [0, 2, 4, 6, 8, 10, 13, 14, 16, 19]) (by kernel_rfl) fun w82 u83 => ?_
     have zu83 := u83.size
     refine go ?_
     refine x_s fun w85 sw85 B87 u86 => ?_
     refine go ?_
     refine x_s fun w90 sw90 B92 u91 => ?_
     refine go ?_
     refine f_ret1 (v := .agg #[.int .i64 (n1.m + c.o), .int .i64 ((ctS c.l en.m (n1.m + c.o) (ys ++ [(⟨en.m, en.m⟩ : Fre)]) k).u), .int .i64 (max 0 (en.m - ((ctS c.l en.m (n1.m + c.o) (ys ++ [(⟨en.m, en.m⟩ : Fre)]) k).a))), .int .i64 (c.l - ((ctS c.l en.m (n1.m + c.o) (ys ++ [(⟨en.m, en.m⟩ : Fre)]) k).u))]) results39 ⟨_, _, rfl, run_loadVarN (vs := [.int .i64 (n1.m + c.o), .int .i64 ((ctS c.l en.m (n1.m + c.o) (ys ++ [(⟨en.m, en.m⟩ : Fre)]) k).u), .int .i64 (max 0 (en.m - ((ctS c.l en.m (n1.m + c.o) (ys ++ [(⟨en.m, en.m⟩ : Fre)]) k).a))), .int .i64 (c.l - ((ctS c.l en.m (n1.m + c.o) (ys ++ [(⟨en.m, en.m⟩ : Fre)]) k).u))]) isAgg52 sizeOf52 rfl (B92.at.sub 0 4)⟩ (⟨⟨ys, hyp, hya, ?_⟩, u_d⟩)
     simp only [cntP, hfin]
     first | rfl | (simp_all [encLc]; done)
    refine go ?_
    refine x_s fun w95 sw95 B97 u96 => ?_
    refine go ?_
    refine f_ret1 (v := .agg #[.int .i64 (n1.m + c.o), .int .i64 ((ctS c.l en.m (n1.m + c.o) (ys ++ [(⟨en.m, en.m⟩ : Fre)]) k).u), .int .i64 (max 0 (en.m - ((ctS c.l en.m (n1.m + c.o) (ys ++ [(⟨en.m, en.m⟩ : Fre)]) k).a))), .int .i64 0]) results39 ⟨_, _, rfl, run_loadVarN (vs := [.int .i64 (n1.m + c.o), .int .i64 ((ctS c.l en.m (n1.m + c.o) (ys ++ [(⟨en.m, en.m⟩ : Fre)]) k).u), .int .i64 (max 0 (en.m - ((ctS c.l en.m (n1.m + c.o) (ys ++ [(⟨en.m, en.m⟩ : Fre)]) k).a))), .int .i64 0]) isAgg52 sizeOf52 rfl (B97.at.sub 0 4)⟩ (⟨⟨ys, hyp, hya, ?_⟩, u_d⟩)
    simp only [cntP, hfin]
    first | rfl | (simp_all [encLc]; done)
   refine go ?_
   refine c_drawnM follows (fun i => i = bk2) (OTl [0, 2, 4, 6, 8, 10, 13, 14, 16, 19]) (by kernel_rfl) fun w101 u102 => ?_
   have zu102 := u102.size
   refine go ?_
   refine x_s fun w104 sw104 B106 u105 => ?_
   refine go ?_
   refine x_s fun w109 sw109 B111 u110 => ?_
   refine go ?_
   refine f_ret1 (v := .agg #[.int .i64 (n1.m + c.o), .int .i64 ((ctS c.l en.m (n1.m + c.o) (ys ++ [(⟨en.m, en.m⟩ : Fre)]) k).u), .int .i64 0, .int .i64 (c.l - ((ctS c.l en.m (n1.m + c.o) (ys ++ [(⟨en.m, en.m⟩ : Fre)]) k).u))]) results39 ⟨_, _, rfl, run_loadVarN (vs := [.int .i64 (n1.m + c.o), .int .i64 ((ctS c.l en.m (n1.m + c.o) (ys ++ [(⟨en.m, en.m⟩ : Fre)]) k).u), .int .i64 0, .int .i64 (c.l - ((ctS c.l en.m (n1.m + c.o) (ys ++ [(⟨en.m, en.m⟩ : Fre)]) k).u))]) isAgg52 sizeOf52 rfl (B111.at.sub 0 4)⟩ (⟨⟨ys, hyp, hya, ?_⟩, u_d⟩)
   simp only [cntP, hfin]
   first | rfl | (simp_all; done)
  have hus := ctUse_rng (en := en.m) (f := nth (ys ++ [(⟨en.m, en.m⟩ : Fre)]) k) hu9.2 hfk.1 ha9
  have hS9 : (ctS c.l en.m (n1.m + c.o) (ys ++ [(⟨en.m, en.m⟩ : Fre)]) (k + 1)) = ctStep c.l en.m (ctS c.l en.m (n1.m + c.o) (ys ++ [(⟨en.m, en.m⟩ : Fre)]) k) (nth (ys ++ [(⟨en.m, en.m⟩ : Fre)]) k) := rfl
  have hU9 : (ctS c.l en.m (n1.m + c.o) (ys ++ [(⟨en.m, en.m⟩ : Fre)]) (k + 1)).u = (ctS c.l en.m (n1.m + c.o) (ys ++ [(⟨en.m, en.m⟩ : Fre)]) k).u + (ctUse c.l en.m (ctS c.l en.m (n1.m + c.o) (ys ++ [(⟨en.m, en.m⟩ : Fre)]) k) (nth (ys ++ [(⟨en.m, en.m⟩ : Fre)]) k)) := by rw [hS9, ctStep, if_neg g56]
  have hA9 : (ctS c.l en.m (n1.m + c.o) (ys ++ [(⟨en.m, en.m⟩ : Fre)]) (k + 1)).a = if (ctS c.l en.m (n1.m + c.o) (ys ++ [(⟨en.m, en.m⟩ : Fre)]) k).u + (ctUse c.l en.m (ctS c.l en.m (n1.m + c.o) (ys ++ [(⟨en.m, en.m⟩ : Fre)]) k) (nth (ys ++ [(⟨en.m, en.m⟩ : Fre)]) k)) < c.l then max ((ctS c.l en.m (n1.m + c.o) (ys ++ [(⟨en.m, en.m⟩ : Fre)]) k).a + (ctUse c.l en.m (ctS c.l en.m (n1.m + c.o) (ys ++ [(⟨en.m, en.m⟩ : Fre)]) k) (nth (ys ++ [(⟨en.m, en.m⟩ : Fre)]) k))) (min (nth (ys ++ [(⟨en.m, en.m⟩ : Fre)]) k).t en.m) else (ctS c.l en.m (n1.m + c.o) (ys ++ [(⟨en.m, en.m⟩ : Fre)]) k).a + (ctUse c.l en.m (ctS c.l en.m (n1.m + c.o) (ys ++ [(⟨en.m, en.m⟩ : Fre)]) k) (nth (ys ++ [(⟨en.m, en.m⟩ : Fre)]) k)) := by rw [hS9, ctStep, if_neg g56]
  refine go ?_
  refine t_min rfl rfl rfl rfl ?_
  refine go ?_
  refine t_max rfl rfl rfl rfl ?_
  refine go ?_
  refine c_drawnM follows (fun _ => False) (OTl [0, 2, 4, 6, 8, 10, 12, 14, 16, 18, 20]) (by kernel_rfl) fun w115 u116 => ?_
  have zu116 := u116.size
  refine go ?_
  refine y_min rfl rfl rfl rfl (y_same 73 (v := .int .i64 (ctUse c.l en.m (ctS c.l en.m (n1.m + c.o) (ys ++ [(⟨en.m, en.m⟩ : Fre)]) k) (nth (ys ++ [(⟨en.m, en.m⟩ : Fre)]) k))) rfl (by unfold ctUse; rfl) ?_)
  refine go ?_
  refine x_s fun w119 sw119 B121 u120 => ?_
  refine go ?_
  refine c_drawnM follows (fun _ => False) (OTl [0, 2, 4, 6, 8, 10, 12, 14]) (by kernel_rfl) fun w125 u126 => ?_
  have zu126 := u126.size
  refine go ?_
  refine q_p (fun g89 => ?_) fun g89 => ?_
  ·
   refine go ?_
   refine t_min rfl rfl rfl rfl (t_max rfl rfl rfl rfl ?_)
   refine go ?_
   have B128 := (B121.kx u126)
   exact hK46 (k + 1) ⟨(by first | (rw [hU9]; exact B128) | exact B128), (by omega), (by rw [hU9]; omega), (by rw [hA9]; split <;> omega)⟩ (hs := by exact ⟨(congrArg (fun z => some (Value.int .i64 z)) (by first | rw [hA9, if_pos g89] | rw [hA9, if_neg g89])), rfl, rfl, rfl, rfl, rfl, rfl, trivial⟩)
  refine go ?_
  have B129 := (B121.kx u126)
  exact hK46 (k + 1) ⟨(by first | (rw [hU9]; exact B129) | exact B129), (by omega), (by rw [hU9]; omega), (by rw [hA9]; split <;> omega)⟩ (hs := by exact ⟨(congrArg (fun z => some (Value.int .i64 z)) (by first | rw [hA9, if_pos g89] | rw [hA9, if_neg g89])), rfl, rfl, rfl, rfl, rfl, rfl, trivial⟩)
 have hfin : (ctS c.l en.m (n1.m + c.o) (ys ++ [(⟨en.m, en.m⟩ : Fre)]) (ys.length + 1)) = (ctS c.l en.m (n1.m + c.o) (ys ++ [(⟨en.m, en.m⟩ : Fre)]) k) := by rw [show k = ys.length + 1 by omega]
 refine go ?_
 refine c_drawnM follows (fun _ => False) (OTl [0, 2, 4, 6, 8, 10, 12, 14]) (by kernel_rfl) fun w132 u133 => ?_
 have zu133 := u133.size
 refine go ?_
 refine q_p (fun g104 => ?_) fun g104 => ?_
 ·
  refine go ?_
  refine t_max rfl rfl rfl rfl ?_
  refine go ?_
  refine x_s fun w135 sw135 B137 u136 => ?_
  refine go ?_
  refine q_p (fun g112 => ?_) fun g112 => ?_
  ·
   refine c_drawnM follows (fun i => i = bk2) (OTl [0, 2, 4, 6, 8, 10, 13, 14, 16, 19]) (by kernel_rfl) fun w141 u142 => ?_
   have zu142 := u142.size
   refine go ?_
   refine x_s fun w144 sw144 B146 u145 => ?_
   refine go ?_
   refine x_s fun w149 sw149 B151 u150 => ?_
   refine go ?_
   refine f_ret1 (v := .agg #[.int .i64 (n1.m + c.o), .int .i64 ((ctS c.l en.m (n1.m + c.o) (ys ++ [(⟨en.m, en.m⟩ : Fre)]) k).u), .int .i64 (max 0 (en.m - ((ctS c.l en.m (n1.m + c.o) (ys ++ [(⟨en.m, en.m⟩ : Fre)]) k).a))), .int .i64 (c.l - ((ctS c.l en.m (n1.m + c.o) (ys ++ [(⟨en.m, en.m⟩ : Fre)]) k).u))]) results39 ⟨_, _, rfl, run_loadVarN (vs := [.int .i64 (n1.m + c.o), .int .i64 ((ctS c.l en.m (n1.m + c.o) (ys ++ [(⟨en.m, en.m⟩ : Fre)]) k).u), .int .i64 (max 0 (en.m - ((ctS c.l en.m (n1.m + c.o) (ys ++ [(⟨en.m, en.m⟩ : Fre)]) k).a))), .int .i64 (c.l - ((ctS c.l en.m (n1.m + c.o) (ys ++ [(⟨en.m, en.m⟩ : Fre)]) k).u))]) isAgg52 sizeOf52 rfl (B151.at.sub 0 4)⟩ (⟨⟨ys, hyp, hya, ?_⟩, u_d⟩)
   simp only [cntP, hfin]
   first | rfl | (simp_all [encLc]; done)
  refine go ?_
  refine x_s fun w154 sw154 B156 u155 => ?_
  refine go ?_
  refine f_ret1 (v := .agg #[.int .i64 (n1.m + c.o), .int .i64 ((ctS c.l en.m (n1.m + c.o) (ys ++ [(⟨en.m, en.m⟩ : Fre)]) k).u), .int .i64 (max 0 (en.m - ((ctS c.l en.m (n1.m + c.o) (ys ++ [(⟨en.m, en.m⟩ : Fre)]) k).a))), .int .i64 0]) results39 ⟨_, _, rfl, run_loadVarN (vs := [.int .i64 (n1.m + c.o), .int .i64 ((ctS c.l en.m (n1.m + c.o) (ys ++ [(⟨en.m, en.m⟩ : Fre)]) k).u), .int .i64 (max 0 (en.m - ((ctS c.l en.m (n1.m + c.o) (ys ++ [(⟨en.m, en.m⟩ : Fre)]) k).a))), .int .i64 0]) isAgg52 sizeOf52 rfl (B156.at.sub 0 4)⟩ (⟨⟨ys, hyp, hya, ?_⟩, u_d⟩)
  simp only [cntP, hfin]
  first | rfl | (simp_all [encLc]; done)
 refine go ?_
 refine c_drawnM follows (fun i => i = bk2) (OTl [0, 2, 4, 6, 8, 10, 13, 14, 16, 19]) (by kernel_rfl) fun w160 u161 => ?_
 have zu161 := u161.size
 refine go ?_
 refine x_s fun w163 sw163 B165 u164 => ?_
 refine go ?_
 refine x_s fun w168 sw168 B170 u169 => ?_
 refine go ?_
 refine f_ret1 (v := .agg #[.int .i64 (n1.m + c.o), .int .i64 ((ctS c.l en.m (n1.m + c.o) (ys ++ [(⟨en.m, en.m⟩ : Fre)]) k).u), .int .i64 0, .int .i64 (c.l - ((ctS c.l en.m (n1.m + c.o) (ys ++ [(⟨en.m, en.m⟩ : Fre)]) k).u))]) results39 ⟨_, _, rfl, run_loadVarN (vs := [.int .i64 (n1.m + c.o), .int .i64 ((ctS c.l en.m (n1.m + c.o) (ys ++ [(⟨en.m, en.m⟩ : Fre)]) k).u), .int .i64 0, .int .i64 (c.l - ((ctS c.l en.m (n1.m + c.o) (ys ++ [(⟨en.m, en.m⟩ : Fre)]) k).u))]) isAgg52 sizeOf52 rfl (B170.at.sub 0 4)⟩ (⟨⟨ys, hyp, hya, ?_⟩, u_d⟩)
 simp only [cntP, hfin]
 first | rfl | (simp_all [encLc]; done)

end Go.Proofs.YtclinbbghnebaaaGreat
namespace Go.Proofs.YtclinbbghnebaaaGreat
open Go Go.RowKit Go.Proofs.Tryz
set_option maxRecDepth 10000

abbrev FrBd (x : Fre) : Prop := (0 ≤ x.f ∧ x.f ≤ 100000) ∧ (0 ≤ x.t ∧ x.t ≤ 100000)
theorem chkFr_bd {l : List Fre} (h : chkFr l = 0) : ∀ x ∈ l, FrBd x := fun x hx => by
  unfold chkFr at h
  split at h
  · omega
  · split at h
    · omega
    · rename_i _ h2
      cases hb : okFre x
      · exact absurd (List.any_eq_true.2 ⟨x, hx, by simp [hb]⟩) h2
      · unfold okFre at hb
        rw [decide_eq_true_eq] at hb
        exact hb.1
theorem opS_bd {en : Int} {fr : List Fre} {l : List Msg} (hfr : ∀ x ∈ fr, FrBd x) (hl : ∀ x ∈ l, okMsg x = true) (hen : 0 ≤ en ∧ en ≤ 100000) : ∀ k, k ≤ l.length → (∀ x ∈ (opS en fr l k).ex, FrBd x) ∧ (opS en fr l k).ex.length ≤ fr.length + k
  | 0, _ => ⟨hfr, Nat.le_refl _⟩
  | k + 1, hk => by
    obtain ⟨h1, h2⟩ := opS_bd hfr hl hen k (by omega)
    have hm := okMsg_k (hl _ (nth_mem (xs := l) (i := k) (by omega)))
    unfold opS
    split
    · exact ⟨h1, by omega⟩
    · simp only [opEx]
      split
      · refine ⟨fun x hx => ?_, by rw [List.length_append, List.length_singleton]; omega⟩
        rcases List.mem_append.1 hx with hx | hx
        · exact h1 x hx
        · rw [List.mem_singleton.1 hx]; exact ⟨hm.2, by show 0 ≤ max _ _ ∧ max _ _ ≤ _; omega⟩
      · split
        · refine ⟨fun x hx => ?_, by rw [List.length_set]; omega⟩
          obtain ⟨i, hi, e⟩ := List.mem_iff_getElem.1 hx
          rw [List.length_set] at hi
          rw [List.getElem_set] at e
          split at e
          · rename_i q
            have h9 := h1 _ (nth_mem (xs := (opS en fr l k).ex) (i := (opS en fr l k).ex.length - 1) (by omega))
            rw [← e]; exact ⟨h9.1, hm.2⟩
          · rw [← e]; exact h1 _ (List.getElem_mem hi)
        · exact ⟨h1, by omega⟩
theorem fG_mem {α β : Type} [DecidableEq α] : ∀ (m : List (α × β)) (a : α) (i : Nat) {j : Nat} {v : β}, fG m a i = some (j, v) → (a, v) ∈ m := fun m a i j v h => by
  have := (fG_at m a i h).2
  exact List.mem_of_getElem? this
theorem gtG_mem {α β : Type} [DecidableEq α] {m : List (α × β)} {a : α} {v : β} (h : gtG m a = some v) : (a, v) ∈ m := by
  unfold gtG at h
  cases hf : fG m a 0 with
  | none => rw [hf] at h; cases h
  | some p =>
    rw [hf] at h
    simp only [Option.map_some, Option.some.injEq] at h
    subst h
    exact fG_mem m a 0 hf
theorem onS_mem {l : List Msg} : ∀ {k : Nat} {p : Int × Msg}, k ≤ l.length → p ∈ onS l k → p.2 ∈ l
  | 0, _, _, h => by cases h
  | k + 1, p, hk, h => by
    unfold onS at h
    split at h
    · exact onS_mem (by omega) h
    · rcases upG_mem h with h | h
      · exact onS_mem (by omega) h
      · rw [h]; exact nth_mem (by omega)
theorem okCh_rng {c : Chr} {ws : List Low} (h : chkCh c ws = 0) : ws.length ≤ 10 ∧ ((0 ≤ c.s ∧ c.s ≤ 99) ∧ (0 ≤ c.c ∧ c.c ≤ 99) ∧ (0 ≤ c.k ∧ c.k ≤ 99)) ∧ (0 ≤ c.r ∧ c.r ≤ 1000000) ∧ (0 ≤ c.n ∧ c.n ≤ 1000000) ∧ ((0 ≤ c.l ∧ c.l ≤ 100000) ∧ (0 ≤ c.o ∧ c.o ≤ 100000)) ∧ ((0 ≤ c.d ∧ c.d ≤ 100000000) ∧ (0 ≤ c.e ∧ c.e ≤ 100000000)) ∧ (0 ≤ c.m ∧ c.m ≤ 100) := by
  unfold chkCh at h
  split at h
  · rename_i q
    unfold okCh at q
    rw [decide_eq_true_eq] at q
    exact q.2
  · omega
/-- What a call has, for the count. -/
theorem OpOk.data {fr ex : List Fre} {l out : List Msg} (h : OpOk fr out ex) (hR : RdR l out 0) (hf : chkFr fr = 0) : ∃ n1 en, gtG (onS out out.length) 1 = some n1 ∧ gtG (onS out out.length) 4 = some en ∧ (0 ≤ n1.m ∧ n1.m ≤ 100000) ∧ (0 ≤ en.m ∧ en.m ≤ 100000) ∧ (∀ x ∈ ex, FrBd x) ∧ ex.length ≤ 1000 := by
  obtain ⟨_, n1, en, h1, h4, _, rfl⟩ := h
  obtain ⟨q1, q2, q3⟩ := hR.facts
  obtain ⟨q4, q5⟩ := rdE_ok q3
  have q6 : ∀ x ∈ out, okMsg x = true := fun x hx => q5 x (q1 x hx)
  have q7 : 0 ≤ n1.m ∧ n1.m ≤ 100000 := (okMsg_k (q6 _ (onS_mem (Nat.le_refl _) (gtG_mem h1)))).2
  have q8 : 0 ≤ en.m ∧ en.m ≤ 100000 := (okMsg_k (q6 _ (onS_mem (Nat.le_refl _) (gtG_mem h4)))).2
  have q9 := opS_bd (chkFr_bd hf) q6 q8 out.length (Nat.le_refl _)
  have q10 := chkFr_len hf
  exact ⟨n1, en, h1, h4, q7, q8, q9.1, by omega⟩
/-- What Laytime returns. -/
def LtR (c : Chr) (ws : List Low) (fr : List Fre) (l : List Msg) (lc : Lc) (e : Int) : Prop := (e ≠ 0 ∧ SgE c ws fr l e ∧ lc = ⟨0, 0, 0, 0⟩) ∨ (e = 0 ∧ chkCh c ws = 0 ∧ chkFr fr = 0 ∧ oneC l = true ∧ ∃ out ex n1 en ys, RdR l out 0 ∧ OpOk fr out ex ∧ gtG (onS out out.length) 1 = some n1 ∧ gtG (onS out out.length) 4 = some en ∧ List.Perm ys ex ∧ Asc cmpFr ys ∧ lc = cntP c.l en.m (n1.m + c.o) ys)
/-- The percent of the bonus at a level. -/
def pctP (ws : List Low) (lv : Int) : Int := match ws.find? fun x => decide (lv < x.b) with
  | none => 0
  | some x => x.p
theorem pct_no {ws : List Low} {lv : Int} (h : ∀ j, j < ws.length → decide (lv < (nth ws j).b) = false) : pctP ws lv = 0 := by
  have : ws.find? (fun x => decide (lv < x.b)) = none := List.find?_eq_none.2 fun x hx => by
    obtain ⟨i, hi, rfl⟩ := List.mem_iff_getElem.1 hx
    have := h i hi
    rw [nth_eq hi] at this
    simp [this]
  unfold pctP; rw [this]
theorem pct_yes {ws : List Low} {lv : Int} {k : Nat} (hk : k < ws.length) (h1 : decide (lv < (nth ws k).b) = true) (h : ∀ j, j < k → decide (lv < (nth ws j).b) = false) : pctP ws lv = (nth ws k).p := by
  have : ws.find? (fun x => decide (lv < x.b)) = some (nth ws k) := by
    rw [nth_eq hk] at h1 ⊢
    refine List.find?_eq_some_iff_getElem.2 ⟨h1, k, hk, rfl, fun j hj => ?_⟩
    have := h j hj
    rw [nth_eq (by omega)] at this
    simp [this]
  unfold pctP; rw [this]
theorem percent_c (px : Nat) (c : Chr) (ws : List Low) (aw : Option Addr) (bw ow cw r : Nat) (aE : Option Addr) (nE cE : Nat) (lv : Int) (w0 : World) (hpx : Blk w0 px 224 [.int .i64 c.s, .int .i64 c.c, .int .i64 c.k, .int .i64 c.r, .int .i64 c.n, .int .i64 c.l, .int .i64 c.o, .int .i64 c.d, .int .i64 c.e, .int .i64 c.m, .slice aw ws.length cw, .map (some r), .slice aE nE cE]) (hws : Sl encLow 2 w0 aw bw ow ws) (hwl : ws.length ≤ 1000000) :
    CallsV Tryz.prog 104 [.pointer (some ⟨px, 0, none⟩), .int .i64 lv] w0 (fun v w' => v = .int .i64 (pctP ws lv) ∧ Ext w0 w') := by
 refine f_n func104 ?_
 refine go ?_
 refine x_b fun bk2 w3 ebk2 sbk2 B4 u5 => ?_
 have E6 := Sc.mk ((Upd.refl (fun _ => False) w0).nx u5)
 refine go ?_
 refine t_mkfunc (vs := []) (us := [.pointer (some ⟨bk2, 0, none⟩)]) rfl rfl rfl rfl ?_
 refine x_c func173 rfl rfl (indexWL_c encLow (fun _ => rfl) (fun x => decide (lv < x.b)) 174 [.pointer (some ⟨bk2, 0, none⟩)] ws aw bw ow cw _ own174 (fun x _ w u => percent1_c x lv bk2 w (B4.keep u (fun h => h))) (hws.keep E6.u (fun _ h => h)) hwl) ?_
 rintro _ w9 ⟨⟨n, rfl, hn⟩, u10⟩ zu10
 refine go ?_
 refine q_p (fun g14 => ?_) fun g14 => ?_
 ·
  refine go ?_
  refine f_1 results104 ?_
  have hq := (hn.resolve_right (fun ⟨k, e, _⟩ => by omega)).2
  exact ⟨by rw [pct_no hq], u_d⟩
 obtain ⟨k0, rfl, hk0, hpk, hno⟩ := hn.resolve_left (fun h => by omega)
 refine go ?_
 refine g_i k0 (hws.keep (E6.u.nx u10) (fun _ h => h)) (fun _ => ?_)
 refine go ?_
 refine f_1 results104 ?_
 exact ⟨by rw [pct_yes hk0 hpk hno], u_d⟩

theorem Laytime_c (c : Chr) (ws : List Low) (aw : Option Addr) (bw ow cw : Nat) (fr : List Fre) (af : Option Addr) (bf of_ cf : Nat) (l : List Msg) (al : Option Addr) (bl ol cl : Nat) (w0 : World) (hws : Sl encLow 2 w0 aw bw ow ws) (hwl : ws.length ≤ 1000000) (hfr : Sl encFre 2 w0 af bf of_ fr) (hfl : fr.length ≤ 1000000) (hl : Sl encMsg 6 w0 al bl ol l) (hll : l.length ≤ 1000000) (hpos : 0 < w0.heap.size) :
    CallsV Tryz.prog 12 [.agg #[.int .i64 c.s, .int .i64 c.c, .int .i64 c.k, .int .i64 c.r, .int .i64 c.n, .int .i64 c.l, .int .i64 c.o, .int .i64 c.d, .int .i64 c.e, .int .i64 c.m, .slice aw ws.length cw], .slice af fr.length cf, .slice al l.length cl] w0 (fun v w' => (∃ lc e, v = .tuple #[.agg (encLc lc).toArray, .int .i64 e] ∧ LtR c ws fr l lc e) ∧ Ext w0 w') := by
 refine f_n func12 ?_
 refine go ?_
 refine x_b fun bk2 w3 ebk2 sbk2 B4 u5 => ?_
 refine x_n fun bk7 w8 ebk7 sbk7 B9 u10 => ?_
 have E11 := Sc.mk (((Upd.refl (fun _ => False) w0).nx u5).nx u10)
 refine go ?_
 refine x_c func38 rfl rfl (single_c c ws aw bw ow cw fr af bf of_ cf l al bl ol cl _ (hws.keep E11.u (fun _ h => h)) hwl (hfr.keep E11.u (fun _ h => h)) hfl (hl.keep E11.u (fun _ h => h)) hll (by omega)) ?_
 rintro _ w14 ⟨⟨pO, eO, rfl, hO⟩, u15⟩ zu15
 refine go ?_
 refine q_p (fun g18 => ?_) fun g18 => ?_
 ·
  refine go ?_
  refine x_s fun w21 sw21 B23 u22 => ?_
  refine go ?_
  refine f_ret2 (v1 := .agg #[.int .i64 0, .int .i64 0, .int .i64 0, .int .i64 0]) (v2 := .int .i64 eO) results12 ⟨_, _, rfl, run_loadVarN (vs := [.int .i64 0, .int .i64 0, .int .i64 0, .int .i64 0]) isAgg52 sizeOf52 rfl (B23.at.sub 0 4)⟩ rfl ?_
  obtain ⟨hp0, he0, hE⟩ := hO.resolve_right (fun h => g18 h.1)
  exact ⟨⟨⟨0, 0, 0, 0⟩, eO, rfl, .inl ⟨he0, hE, rfl⟩⟩, u_d⟩
 obtain ⟨e0, hc0, hf0, h1c, out, hRd, px, r, aE, gE, cE, ex, rfl, hB, hM, hA, hOk⟩ := hO.resolve_left (fun h => h.2.1 (by omega))
 subst e0
 obtain ⟨n1, en, hn1, hn4, hb1, hb4, hexb, hexl⟩ := hOk.data hRd hf0
 have hcr := okCh_rng hc0
 have hBl := hB.lt
 have lt_gE := hA.lt
 refine go ?_
 refine x_c func39 rfl rfl (count_c px c ws aw cw r aE gE cE w8.heap.size ex (onS out out.length) n1 en _ hB hM hA (by omega) hn1 hn4 hb1 hb4 (by omega) (by omega) hexb hexl) ?_
 rintro _ w27 ⟨⟨ys, hyp, hya, rfl⟩, u28⟩ zu28
 refine x_s fun w31 sw31 B33 u32 => ?_
 refine go ?_
 refine f_ret2 (v1 := .agg #[.int .i64 ((cntP c.l en.m (n1.m + c.o) ys).b), .int .i64 ((cntP c.l en.m (n1.m + c.o) ys).u), .int .i64 ((cntP c.l en.m (n1.m + c.o) ys).o), .int .i64 ((cntP c.l en.m (n1.m + c.o) ys).s)]) (v2 := .int .i64 0) results12 ⟨_, _, rfl, run_loadVarN (vs := [.int .i64 ((cntP c.l en.m (n1.m + c.o) ys).b), .int .i64 ((cntP c.l en.m (n1.m + c.o) ys).u), .int .i64 ((cntP c.l en.m (n1.m + c.o) ys).o), .int .i64 ((cntP c.l en.m (n1.m + c.o) ys).s)]) isAgg52 sizeOf52 rfl (B33.at.sub 0 4)⟩ rfl ?_
 exact ⟨⟨_, 0, rfl, .inr ⟨rfl, hc0, hf0, h1c, out, ex, n1, en, ys, hRd, hOk, hn1, hn4, hyp, hya, rfl⟩⟩, u_d⟩

end Go.Proofs.YtclinbbghnebaaaGreat
