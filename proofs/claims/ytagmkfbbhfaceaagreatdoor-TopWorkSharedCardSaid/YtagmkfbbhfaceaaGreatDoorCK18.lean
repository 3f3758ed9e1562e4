/-
  Part 18 of the proof: contracts and plain laws. Conditions: none.
-/
import Derived.Test.YtagmkfbbhfaceaaGreatDoorCK17
namespace Go.Proofs.YtagmkfbbhfaceaaGreatDoor
open Go Go.RowKit Go.Proofs.Tryz
set_option maxRecDepth 10000

/-- Laytime that is used, and the minute that it has come to. -/
structure CtS where
  u : Int
  a : Int
def ctUse (L en : Int) (s : CtS) (f : Fre) : Int := min (max 0 (min f.f en - s.a)) (L - s.u)
def ctStep (L en : Int) (s : CtS) (f : Fre) : CtS := if s.u = L then s else ⟨s.u + ctUse L en s f, if s.u + ctUse L en s f < L then max (s.a + ctUse L en s f) (min f.t en) else s.a + ctUse L en s f⟩
def ctS (L en b : Int) (fs : List Fre) : Nat → CtS
  | 0 => ⟨0, b⟩
  | k + 1 => ctStep L en (ctS L en b fs k) (nth fs k)
theorem ctS_stop {L en b : Int} {fs : List Fre} {k : Nat} (h : (ctS L en b fs k).u = L) : ∀ j, ctS L en b fs (k + j) = ctS L en b fs k
  | 0 => rfl
  | j + 1 => by
    show ctStep L en (ctS L en b fs (k + j)) (nth fs (k + j)) = _
    rw [ctS_stop h j]
    exact if_pos h
theorem ctUse_rng {L en : Int} {s : CtS} {f : Fre} (hu : s.u ≤ L) (hf : 0 ≤ f.f ∧ f.f ≤ 100000) (ha : 0 ≤ s.a ∧ s.a ≤ 200000) : 0 ≤ ctUse L en s f ∧ ctUse L en s f ≤ L - s.u ∧ s.a + ctUse L en s f ≤ 200000 := by
  unfold ctUse; omega
structure Lc where
  b : Int
  u : Int
  o : Int
  s : Int
def encLc (x : Lc) : List Value := [.int .i64 x.b, .int .i64 x.u, .int .i64 x.o, .int .i64 x.s]
/-- Laytime counted. -/
def cntP (L en b : Int) (ys : List Fre) : Lc :=
  let s := ctS L en b (ys ++ [⟨en, en⟩]) (ys.length + 1)
  let o := if s.u = L then max 0 (en - s.a) else 0
  ⟨b, s.u, o, if o = 0 then L - s.u else 0⟩
set_option maxHeartbeats 4000000 in
theorem count_c (px : Nat) (c : Chr) (ws : List Low) (aw : Option Addr) (cw r : Nat) (aE : Option Addr) (gE cE base : Nat) (ex : List Fre) (m : List (Int × Msg)) (n1 en : Msg) (w0 : World) (hpx : Blk w0 px 280 [.int .i64 c.s, .int .i64 c.c, .int .i64 c.k, .int .i64 c.r, .int .i64 c.n, .int .i64 c.l, .int .i64 c.o, .int .i64 c.d, .int .i64 c.e, .int .i64 c.m, .slice aw ws.length cw, .map (some r), .slice aE ex.length cE]) (hm : MapG cd1 m w0 r) (hA : Acc encFre 2 283 base w0 aE gE cE ex) (_hb : base ≤ w0.heap.size) (hn1 : gtG m 1 = some n1) (hn4 : gtG m 4 = some en) (hb1 : 0 ≤ n1.m ∧ n1.m ≤ 100000) (hen : 0 ≤ en.m ∧ en.m ≤ 100000) (hco : 0 ≤ c.o ∧ c.o ≤ 100000) (hcl : 0 ≤ c.l ∧ c.l ≤ 100000) (hexb : ∀ x ∈ ex, (0 ≤ x.f ∧ x.f ≤ 100000) ∧ (0 ≤ x.t ∧ x.t ≤ 100000)) (hexl : ex.length ≤ 1000) :
    CallsV Tryz.prog 119 [.pointer (some ⟨px, 0, none⟩)] w0 (fun v w' => (∃ ys, List.Perm ys ex ∧ AscC cmpFr ys ∧ v = .agg (encLc (cntP c.l en.m (n1.m + c.o) ys)).toArray) ∧ Upd (fun i => i = gE ∧ base ≤ i) w0 w') := by
 have hcE := hA.cap_le
 have hpxl := hpx.lt
 have hml := hm.lt
 have hgl := hA.lt
 have hgr : gE < base ∨ gE ≠ r := (Nat.lt_or_ge _ _).imp_right (fun h => hA.neMap hm h)
 have hgp : gE < base ∨ gE ≠ px := (Nat.lt_or_ge _ _).imp_right (fun h => hA.neBlk hpx (by decide) h)
 refine f_n func119 ?_
 refine go ?_
 refine x_n fun bk2 w3 ebk2 sbk2 B4 u5 => ?_
 refine go ?_
 refine c_drawnM follows (fun i => i = bk2) (OTl [0, 2, 4, 6, 12, 14, 16, 18, 20, 9, 10, 22, 24, 27]) (by kernel_rfl) fun w8 u9 => ?_
 have zu9 := u9.size
 refine go ?_
 have D11 := ((hm.keep u5 (fun h => h)).keep u9 (fun h => h))
 refine t_getG (cd := cd1) (a := (1 : Int)) (m := m) (z := .agg #[.int .i64 0, .int .i64 0, .int .i64 0, .int .i64 0, .int .i64 0, .int .i64 0]) key1_ok underlying278 zeroValue235 rfl rfl rfl rfl D11 (t_same 12 (v := .agg #[.int .i64 n1.c, .int .i64 n1.n, .int .i64 n1.r, .int .i64 n1.k, .int .i64 n1.m, .int .i64 n1.v]) rfl (by rw [hn1]; rfl) ?_)
 refine go ?_
 refine x_s fun w12 sw12 B14 u13 => ?_
 refine go ?_
 refine c_drawnM follows (fun _ => False) (OTl [0, 2, 4, 6, 8, 10, 16, 13, 14, 18]) (by kernel_rfl) fun w17 u18 => ?_
 have zu18 := u18.size
 refine go ?_
 have D20 := ((D11.keep u13 (show ¬ (r = bk2) by omega)).keep u18 (fun h => h))
 refine t_getG (cd := cd1) (a := (4 : Int)) (m := m) (z := .agg #[.int .i64 0, .int .i64 0, .int .i64 0, .int .i64 0, .int .i64 0, .int .i64 0]) key1_ok underlying278 zeroValue235 rfl rfl rfl rfl D20 (t_same 27 (v := .agg #[.int .i64 en.c, .int .i64 en.n, .int .i64 en.r, .int .i64 en.k, .int .i64 en.m, .int .i64 en.v]) rfl (by rw [hn4]; rfl) ?_)
 refine go ?_
 have D22 := ((((hA.keep u5 (fun _ h => h)).keep u9 (fun _ h => h)).keep u13 (fun hb9 => show ¬ (gE = bk2) by first | omega | assumption)).keep u18 (fun _ h => h))
 refine x_c func169 rfl rfl (sortFr_c ex (fun x hx => (hexb x hx).1) aE gE cE base _ D22 (by omega)) ?_
 rintro _ w24 ⟨⟨rfl, ys, hyp, hya, hyA⟩, u25⟩ zu25
 have hysl := hyp.length_eq
 have lt_gE := hyA.lt
 refine go ?_
 refine x_c func171 rfl rfl (clipF_c ex aE cE _ hcE) ?_
 rintro _ w31 ⟨rfl, u32⟩ zu32
 refine go ?_
 refine x_l fun bk35 w36 ebk35 sbk35 B37 u38 => ?_
 have D40 := ((hyA.keep u32 (fun _ h => h)).keep u38 (fun _ h => h))
 refine t_appClip (z := .agg #[.int .i64 0, .int .i64 0]) (bytes := 16) (k := 2) (enc := encFre) (⟨en.m, en.m⟩ : Fre) underlying228 (by kernel_rfl) rfl (by decide) (fun _ => rfl) (by intro x; simp [encFre, Value.oneCell']) rfl rfl rfl rfl hysl.symm (by rw [subAddr0]; exact D40.sl (fun _ => rfl)) B37 (by omega) (by decide) (fun gF cF w41 A42 u43 hgF => ?_)
 have zu43 := u43.size
 have lt_gF := A42.lt
 have hfsl : (ys ++ [(⟨en.m, en.m⟩ : Fre)]).length = ys.length + 1 := List.length_append
 have hfsb : ∀ x ∈ (ys ++ [(⟨en.m, en.m⟩ : Fre)]), (0 ≤ x.f ∧ x.f ≤ 100000) ∧ (0 ≤ x.t ∧ x.t ≤ 100000) := fun x hx => by
   rcases List.mem_append.1 hx with h | h
   · exact hexb x (hyp.mem_iff.1 h)
   · rw [List.mem_singleton.1 h]; exact ⟨hen, hen⟩
 refine go ?_
 have B45 := (((((B14.kx u18).keep u25 (by omega)).kx u32).kx u38).kx u43)
 refine x_l1 (fun i => i = bk2) [0, 2, 4, 43, 44] (fun (k : Nat) => [(3, .int .i64 ((ctS c.l en.m (n1.m + c.o) (ys ++ [(⟨en.m, en.m⟩ : Fre)]) k).a)), (45, .int .i64 (k : Int))]) (fun k w => Blk w bk2 162 [.int .i64 (n1.m + c.o), .int .i64 ((ctS c.l en.m (n1.m + c.o) (ys ++ [(⟨en.m, en.m⟩ : Fre)]) k).u), .int .i64 0, .int .i64 0] ∧ (k ≤ ys.length + 1) ∧ (0 ≤ (ctS c.l en.m (n1.m + c.o) (ys ++ [(⟨en.m, en.m⟩ : Fre)]) k).u ∧ (ctS c.l en.m (n1.m + c.o) (ys ++ [(⟨en.m, en.m⟩ : Fre)]) k).u ≤ c.l) ∧ (0 ≤ (ctS c.l en.m (n1.m + c.o) (ys ++ [(⟨en.m, en.m⟩ : Fre)]) k).a ∧ (ctS c.l en.m (n1.m + c.o) (ys ++ [(⟨en.m, en.m⟩ : Fre)]) k).a ≤ 200000)) (fun k => ys.length + 1 - k) 0 ⟨B45, (Nat.zero_le _), (by show (0 : Int) ≤ 0 ∧ (0 : Int) ≤ c.l; omega), (by show 0 ≤ n1.m + c.o ∧ n1.m + c.o ≤ 200000; omega)⟩ ?_
 rintro k w47 ⟨I49, hk, hu9, ha9⟩ u48 zu48 K46 hK46
 refine go ?_
 refine q_p (fun g46 => ?_) fun g46 => ?_
 ·
  have hfk := hfsb _ (nth_mem (xs := (ys ++ [(⟨en.m, en.m⟩ : Fre)])) (i := k) (by omega))
  refine go ?_
  have D55 := (A42.keep u48 (fun _hb => show ¬ (gF = bk2) by first | omega | assumption))
  refine g_i k (D55.sl (fun _ => rfl)) (fun _ => ?_)
  refine go ?_
  refine x_n fun bk57 w58 ebk57 sbk57 B59 u60 => ?_
  refine x_s fun w62 sw62 B64 u63 => ?_
  refine go ?_
  refine c_drawnM follows (fun _ => False) (OTl [0, 2, 4, 6, 8, 10, 12, 14]) (by kernel_rfl) fun w68 u69 => ?_
  have zu69 := u69.size
  refine go ?_
  refine q_p (fun g56 => ?_) fun g56 => ?_
  ·
   have hfin : (ctS c.l en.m (n1.m + c.o) (ys ++ [(⟨en.m, en.m⟩ : Fre)]) (ys.length + 1)) = (ctS c.l en.m (n1.m + c.o) (ys ++ [(⟨en.m, en.m⟩ : Fre)]) k) := by have := ctS_stop g56 (ys.length + 1 - k); rwa [show k + (ys.length + 1 - k) = ys.length + 1 by omega] at this
   refine go ?_
   refine c_drawnM follows (fun _ => False) (OTl [0, 2, 4, 6, 8, 10, 12, 14]) (by kernel_rfl) fun w73 u74 => ?_
   have zu74 := u74.size
   refine go ?_
   refine q_p (fun g104 => ?_) fun g104 => ?_
   ·
    refine go ?_
    refine t_max rfl rfl rfl rfl ?_
    refine go ?_
    refine x_s fun w76 sw76 B78 u77 => ?_
    refine go ?_
    refine q_p (fun g112 => ?_) fun g112 => ?_
    ·
     refine c_drawnM follows (fun i => i = bk2) (OTl [0, 2, 4, 6, 8, 10, 13, 14, 16, 19]) (by kernel_rfl) fun w82 u83 => ?_
     have zu83 := u83.size
     refine go ?_
     refine x_s fun w85 sw85 B87 u86 => ?_
     refine go ?_
     refine x_s fun w90 sw90 B92 u91 => ?_
     refine go ?_
     refine f_ret1 (v := .agg #[.int .i64 (n1.m + c.o), .int .i64 ((ctS c.l en.m (n1.m + c.o) (ys ++ [(⟨en.m, en.m⟩ : Fre)]) k).u), .int .i64 (max 0 (en.m - ((ctS c.l en.m (n1.m + c.o) (ys ++ [(⟨en.m, en.m⟩ : Fre)]) k).a))), .int .i64 (c.l - ((ctS c.l en.m (n1.m + c.o) (ys ++ [(⟨en.m, en.m⟩ : Fre)]) k).u))]) results119 ⟨_, _, rfl, run_loadVarN (vs := [.int .i64 (n1.m + c.o), .int .i64 ((ctS c.l en.m (n1.m + c.o) (ys ++ [(⟨en.m, en.m⟩ : Fre)]) k).u), .int .i64 (max 0 (en.m - ((ctS c.l en.m (n1.m + c.o) (ys ++ [(⟨en.m, en.m⟩ : Fre)]) k).a))), .int .i64 (c.l - ((ctS c.l en.m (n1.m + c.o) (ys ++ [(⟨en.m, en.m⟩ : Fre)]) k).u))]) isAgg162 sizeOf162 rfl (B92.at.sub 0 4)⟩ (⟨⟨ys, hyp, hya, ?_⟩, u_d⟩)
     simp only [cntP, hfin]
     first | rfl | (simp_all [encLc]; done)
    refine go ?_
    refine x_s fun w95 sw95 B97 u96 => ?_
    refine go ?_
    refine f_ret1 (v := .agg #[.int .i64 (n1.m + c.o), .int .i64 ((ctS c.l en.m (n1.m + c.o) (ys ++ [(⟨en.m, en.m⟩ : Fre)]) k).u), .int .i64 (max 0 (en.m - ((ctS c.l en.m (n1.m + c.o) (ys ++ [(⟨en.m, en.m⟩ : Fre)]) k).a))), .int .i64 0]) results119 ⟨_, _, rfl, run_loadVarN (vs := [.int .i64 (n1.m + c.o), .int .i64 ((ctS c.l en.m (n1.m + c.o) (ys ++ [(⟨en.m, en.m⟩ : Fre)]) k).u), .int .i64 (max 0 (en.m - ((ctS c.l en.m (n1.m + c.o) (ys ++ [(⟨en.m, en.m⟩ : Fre)]) k).a))), .int .i64 0]) isAgg162 sizeOf162 rfl (B97.at.sub 0 4)⟩ (⟨⟨ys, hyp, hya, ?_⟩, u_d⟩)
    simp only [cntP, hfin]
    first | rfl | (simp_all [encLc]; done)
   refine go ?_
   refine c_drawnM follows (fun i => i = bk2) (OTl [0, 2, 4, 6, 8, 10, 13, 14, 16, 19]) (by kernel_rfl) fun w101 u102 => ?_
   have zu102 := u102.size
   refine go ?_
   refine x_s fun w104 sw104 B106 u105 => ?_
   refine go ?_
   refine x_s fun w109 sw109 B111 u110 => ?_
   refine go ?_
   refine f_ret1 (v := .agg #[.int .i64 (n1.m + c.o), .int .i64 ((ctS c.l en.m (n1.m + c.o) (ys ++ [(⟨en.m, en.m⟩ : Fre)]) k).u), .int .i64 0, .int .i64 (c.l - ((ctS c.l en.m (n1.m + c.o) (ys ++ [(⟨en.m, en.m⟩ : Fre)]) k).u))]) results119 ⟨_, _, rfl, run_loadVarN (vs := [.int .i64 (n1.m + c.o), .int .i64 ((ctS c.l en.m (n1.m + c.o) (ys ++ [(⟨en.m, en.m⟩ : Fre)]) k).u), .int .i64 0, .int .i64 (c.l - ((ctS c.l en.m (n1.m + c.o) (ys ++ [(⟨en.m, en.m⟩ : Fre)]) k).u))]) isAgg162 sizeOf162 rfl (B111.at.sub 0 4)⟩ (⟨⟨ys, hyp, hya, ?_⟩, u_d⟩)
   simp only [cntP, hfin]
   first | rfl | (simp_all; done)
  have hus := ctUse_rng (en := en.m) (f := nth (ys ++ [(⟨en.m, en.m⟩ : Fre)]) k) hu9.2 hfk.1 ha9
  have hS9 : (ctS c.l en.m (n1.m + c.o) (ys ++ [(⟨en.m, en.m⟩ : Fre)]) (k + 1)) = ctStep c.l en.m (ctS c.l en.m (n1.m + c.o) (ys ++ [(⟨en.m, en.m⟩ : Fre)]) k) (nth (ys ++ [(⟨en.m, en.m⟩ : Fre)]) k) := rfl
  have hU9 : (ctS c.l en.m (n1.m + c.o) (ys ++ [(⟨en.m, en.m⟩ : Fre)]) (k + 1)).u = (ctS c.l en.m (n1.m + c.o) (ys ++ [(⟨en.m, en.m⟩ : Fre)]) k).u + (ctUse c.l en.m (ctS c.l en.m (n1.m + c.o) (ys ++ [(⟨en.m, en.m⟩ : Fre)]) k) (nth (ys ++ [(⟨en.m, en.m⟩ : Fre)]) k)) := by rw [hS9, ctStep, if_neg g56]
  have hA9 : (ctS c.l en.m (n1.m + c.o) (ys ++ [(⟨en.m, en.m⟩ : Fre)]) (k + 1)).a = if (ctS c.l en.m (n1.m + c.o) (ys ++ [(⟨en.m, en.m⟩ : Fre)]) k).u + (ctUse c.l en.m (ctS c.l en.m (n1.m + c.o) (ys ++ [(⟨en.m, en.m⟩ : Fre)]) k) (nth (ys ++ [(⟨en.m, en.m⟩ : Fre)]) k)) < c.l then max ((ctS c.l en.m (n1.m + c.o) (ys ++ [(⟨en.m, en.m⟩ : Fre)]) k).a + (ctUse c.l en.m (ctS c.l en.m (n1.m + c.o) (ys ++ [(⟨en.m, en.m⟩ : Fre)]) k) (nth (ys ++ [(⟨en.m, en.m⟩ : Fre)]) k))) (min (nth (ys ++ [(⟨en.m, en.m⟩ : Fre)]) k).t en.m) else (ctS c.l en.m (n1.m + c.o) (ys ++ [(⟨en.m, en.m⟩ : Fre)]) k).a + (ctUse c.l en.m (ctS c.l en.m (n1.m + c.o) (ys ++ [(⟨en.m, en.m⟩ : Fre)]) k) (nth (ys ++ [(⟨en.m, en.m⟩ : Fre)]) k)) := by rw [hS9, ctStep, if_neg g56]
  refine go ?_
  refine t_min rfl rfl rfl rfl ?_
  refine go ?_
  refine t_max rfl rfl rfl rfl ?_
  refine go ?_
  refine c_drawnM follows (fun _ => False) (OTl [0, 2, 4, 6, 8, 10, 12, 14, 16, 18, 20]) (by kernel_rfl) fun w115 u116 => ?_
  have zu116 := u116.size
  refine go ?_
  refine y_min rfl rfl rfl rfl (y_same 73 (v := .int .i64 (ctUse c.l en.m (ctS c.l en.m (n1.m + c.o) (ys ++ [(⟨en.m, en.m⟩ : Fre)]) k) (nth (ys ++ [(⟨en.m, en.m⟩ : Fre)]) k))) rfl (by unfold ctUse; rfl) ?_)
  refine go ?_
  refine x_s fun w119 sw119 B121 u120 => ?_
  refine go ?_
  refine c_drawnM follows (fun _ => False) (OTl [0, 2, 4, 6, 8, 10, 12, 14]) (by kernel_rfl) fun w125 u126 => ?_
  have zu126 := u126.size
  refine go ?_
  refine q_p (fun g89 => ?_) fun g89 => ?_
  ·
   refine go ?_
   refine t_min rfl rfl rfl rfl (t_max rfl rfl rfl rfl ?_)
   refine go ?_
   have B128 := (B121.kx u126)
   exact hK46 (k + 1) ⟨(by first | (rw [hU9]; exact B128) | exact B128), (by omega), (by rw [hU9]; omega), (by rw [hA9]; split <;> omega)⟩ (hs := by exact ⟨(congrArg (fun z => some (Value.int .i64 z)) (by first | rw [hA9, if_pos g89] | rw [hA9, if_neg g89])), rfl, rfl, rfl, rfl, rfl, rfl, trivial⟩)
  refine go ?_
  have B129 := (B121.kx u126)
  exact hK46 (k + 1) ⟨(by first | (rw [hU9]; exact B129) | exact B129), (by omega), (by rw [hU9]; omega), (by rw [hA9]; split <;> omega)⟩ (hs := by exact ⟨(congrArg (fun z => some (Value.int .i64 z)) (by first | rw [hA9, if_pos g89] | rw [hA9, if_neg g89])), rfl, rfl, rfl, rfl, rfl, rfl, trivial⟩)
 have hfin : (ctS c.l en.m (n1.m + c.o) (ys ++ [(⟨en.m, en.m⟩ : Fre)]) (ys.length + 1)) = (ctS c.l en.m (n1.m + c.o) (ys ++ [(⟨en.m, en.m⟩ : Fre)]) k) := by rw [show k = ys.length + 1 by omega]
 refine go ?_
 refine c_drawnM follows (fun _ => False) (OTl [0, 2, 4, 6, 8, 10, 12, 14]) (by kernel_rfl) fun w132 u133 => ?_
 have zu133 := u133.size
 refine go ?_
 refine q_p (fun g104 => ?_) fun g104 => ?_
 ·
  refine go ?_
  refine t_max rfl rfl rfl rfl ?_
  refine go ?_
  refine x_s fun w135 sw135 B137 u136 => ?_
  refine go ?_
  refine q_p (fun g112 => ?_) fun g112 => ?_
  ·
   refine c_drawnM follows (fun i => i = bk2) (OTl [0, 2, 4, 6, 8, 10, 13, 14, 16, 19]) (by kernel_rfl) fun w141 u142 => ?_
   have zu142 := u142.size
   refine go ?_
   refine x_s fun w144 sw144 B146 u145 => ?_
   refine go ?_
   refine x_s fun w149 sw149 B151 u150 => ?_
   refine go ?_
   refine f_ret1 (v := .agg #[.int .i64 (n1.m + c.o), .int .i64 ((ctS c.l en.m (n1.m + c.o) (ys ++ [(⟨en.m, en.m⟩ : Fre)]) k).u), .int .i64 (max 0 (en.m - ((ctS c.l en.m (n1.m + c.o) (ys ++ [(⟨en.m, en.m⟩ : Fre)]) k).a))), .int .i64 (c.l - ((ctS c.l en.m (n1.m + c.o) (ys ++ [(⟨en.m, en.m⟩ : Fre)]) k).u))]) results119 ⟨_, _, rfl, run_loadVarN (vs := [.int .i64 (n1.m + c.o), .int .i64 ((ctS c.l en.m (n1.m + c.o) (ys ++ [(⟨en.m, en.m⟩ : Fre)]) k).u), .int .i64 (max 0 (en.m - ((ctS c.l en.m (n1.m + c.o) (ys ++ [(⟨en.m, en.m⟩ : Fre)]) k).a))), .int .i64 (c.l - ((ctS c.l en.m (n1.m + c.o) (ys ++ [(⟨en.m, en.m⟩ : Fre)]) k).u))]) isAgg162 sizeOf162 rfl (B151.at.sub 0 4)⟩ (⟨⟨ys, hyp, hya, ?_⟩, u_d⟩)
   simp only [cntP, hfin]
   first | rfl | (simp_all [encLc]; done)
  refine go ?_
  refine x_s fun w154 sw154 B156 u155 => ?_
  refine go ?_
  refine f_ret1 (v := .agg #[.int .i64 (n1.m + c.o), .int .i64 ((ctS c.l en.m (n1.m + c.o) (ys ++ [(⟨en.m, en.m⟩ : Fre)]) k).u), .int .i64 (max 0 (en.m - ((ctS c.l en.m (n1.m + c.o) (ys ++ [(⟨en.m, en.m⟩ : Fre)]) k).a))), .int .i64 0]) results119 ⟨_, _, rfl, run_loadVarN (vs := [.int .i64 (n1.m + c.o), .int .i64 ((ctS c.l en.m (n1.m + c.o) (ys ++ [(⟨en.m, en.m⟩ : Fre)]) k).u), .int .i64 (max 0 (en.m - ((ctS c.l en.m (n1.m + c.o) (ys ++ [(⟨en.m, en.m⟩ : Fre)]) k).a))), .int .i64 0]) isAgg162 sizeOf162 rfl (B156.at.sub 0 4)⟩ (⟨⟨ys, hyp, hya, ?_⟩, u_d⟩)
  simp only [cntP, hfin]
  first | rfl | (simp_all [encLc]; done)
 refine go ?_
 refine c_drawnM follows (fun i => i = bk2) (OTl [0, 2, 4, 6, 8, 10, 13, 14, 16, 19]) (by kernel_rfl) fun w160 u161 => ?_
 have zu161 := u161.size
 refine go ?_
 refine x_s fun w163 sw163 B165 u164 => ?_
 refine go ?_
 refine x_s fun w168 sw168 B170 u169 => ?_
 refine go ?_
 refine f_ret1 (v := .agg #[.int .i64 (n1.m + c.o), .int .i64 ((ctS c.l en.m (n1.m + c.o) (ys ++ [(⟨en.m, en.m⟩ : Fre)]) k).u), .int .i64 0, .int .i64 (c.l - ((ctS c.l en.m (n1.m + c.o) (ys ++ [(⟨en.m, en.m⟩ : Fre)]) k).u))]) results119 ⟨_, _, rfl, run_loadVarN (vs := [.int .i64 (n1.m + c.o), .int .i64 ((ctS c.l en.m (n1.m + c.o) (ys ++ [(⟨en.m, en.m⟩ : Fre)]) k).u), .int .i64 0, .int .i64 (c.l - ((ctS c.l en.m (n1.m + c.o) (ys ++ [(⟨en.m, en.m⟩ : Fre)]) k).u))]) isAgg162 sizeOf162 rfl (B170.at.sub 0 4)⟩ (⟨⟨ys, hyp, hya, ?_⟩, u_d⟩)
 simp only [cntP, hfin]
 first | rfl | (simp_all [encLc]; done)

end Go.Proofs.YtagmkfbbhfaceaaGreatDoor
namespace Go.Proofs.YtagmkfbbhfaceaaGreatDoor
open Go Go.RowKit Go.Proofs.Tryz
set_option maxRecDepth 10000

abbrev FrBd (x : Fre) : Prop := (0 ≤ x.f ∧ x.f ≤ 100000) ∧ (0 ≤ x.t ∧ x.t ≤ 100000)
theorem chkFr_bd {l : List Fre} (h : chkFr l = 0) : ∀ x ∈ l, FrBd x := fun x hx => by
  unfold chkFr at h
  split at h
  · omega
  · split at h
    · omega
    · rename_i _ h2
      cases hb : okFre x
      · exact absurd (List.any_eq_true.2 ⟨x, hx, by simp [hb]⟩) h2
      · unfold okFre at hb
        rw [decide_eq_true_eq] at hb
        exact hb.1
theorem opS_bd {en : Int} {fr : List Fre} {l : List Msg} (hfr : ∀ x ∈ fr, FrBd x) (hl : ∀ x ∈ l, okMsg x = true) (hen : 0 ≤ en ∧ en ≤ 100000) : ∀ k, k ≤ l.length → (∀ x ∈ (opS en fr l k).ex, FrBd x) ∧ (opS en fr l k).ex.length ≤ fr.length + k
  | 0, _ => ⟨hfr, Nat.le_refl _⟩
  | k + 1, hk => by
    obtain ⟨h1, h2⟩ := opS_bd hfr hl hen k (by omega)
    have hm := okMsg_k (hl _ (nth_mem (xs := l) (i := k) (by omega)))
    unfold opS
    split
    · exact ⟨h1, by omega⟩
    · simp only [opEx]
      split
      · refine ⟨fun x hx => ?_, by rw [List.length_append, List.length_singleton]; omega⟩
        rcases List.mem_append.1 hx with hx | hx
        · exact h1 x hx
        · rw [List.mem_singleton.1 hx]; exact ⟨hm.2, by show 0 ≤ max _ _ ∧ max _ _ ≤ _; omega⟩
      · split
        · refine ⟨fun x hx => ?_, by rw [List.length_set]; omega⟩
          obtain ⟨i, hi, e⟩ := List.mem_iff_getElem.1 hx
          rw [List.length_set] at hi
          rw [List.getElem_set] at e
          split at e
          · rename_i q
            have h9 := h1 _ (nth_mem (xs := (opS en fr l k).ex) (i := (opS en fr l k).ex.length - 1) (by omega))
            rw [← e]; exact ⟨h9.1, hm.2⟩
          · rw [← e]; exact h1 _ (List.getElem_mem hi)
        · exact ⟨h1, by omega⟩
theorem fG_mem {α β : Type} [DecidableEq α] : ∀ (m : List (α × β)) (a : α) (i : Nat) {j : Nat} {v : β}, fG m a i = some (j, v) → (a, v) ∈ m := fun m a i j v h => by
  have := (fG_at m a i h).2
  exact List.mem_of_getElem? this
theorem gtG_mem {α β : Type} [DecidableEq α] {m : List (α × β)} {a : α} {v : β} (h : gtG m a = some v) : (a, v) ∈ m := by
  unfold gtG at h
  cases hf : fG m a 0 with
  | none => rw [hf] at h; cases h
  | some p =>
    rw [hf] at h
    simp only [Option.map_some, Option.some.injEq] at h
    subst h
    exact fG_mem m a 0 hf
theorem onS_mem {l : List Msg} : ∀ {k : Nat} {p : Int × Msg}, k ≤ l.length → p ∈ onS l k → p.2 ∈ l
  | 0, _, _, h => by cases h
  | k + 1, p, hk, h => by
    unfold onS at h
    split at h
    · exact onS_mem (by omega) h
    · rcases upG_mem h with h | h
      · exact onS_mem (by omega) h
      · rw [h]; exact nth_mem (by omega)
theorem okCh_rng {c : Chr} {ws : List Low} (h : chkCh c ws = 0) : ws.length ≤ 10 ∧ ((0 ≤ c.s ∧ c.s ≤ 99) ∧ (0 ≤ c.c ∧ c.c ≤ 99) ∧ (0 ≤ c.k ∧ c.k ≤ 99)) ∧ (0 ≤ c.r ∧ c.r ≤ 1000000) ∧ (0 ≤ c.n ∧ c.n ≤ 1000000) ∧ ((0 ≤ c.l ∧ c.l ≤ 100000) ∧ (0 ≤ c.o ∧ c.o ≤ 100000)) ∧ ((0 ≤ c.d ∧ c.d ≤ 100000000) ∧ (0 ≤ c.e ∧ c.e ≤ 100000000)) ∧ (0 ≤ c.m ∧ c.m ≤ 100) := by
  unfold chkCh at h
  split at h
  · rename_i q
    unfold okCh at q
    rw [decide_eq_true_eq] at q
    exact q.2
  · omega
/-- What a call has, for the count. -/
theorem OpOk.data {fr ex : List Fre} {l out : List Msg} (h : OpOk fr out ex) (hR : RdR l out 0) (hf : chkFr fr = 0) : ∃ n1 en, gtG (onS out out.length) 1 = some n1 ∧ gtG (onS out out.length) 4 = some en ∧ (0 ≤ n1.m ∧ n1.m ≤ 100000) ∧ (0 ≤ en.m ∧ en.m ≤ 100000) ∧ (∀ x ∈ ex, FrBd x) ∧ ex.length ≤ 1000 := by
  obtain ⟨_, n1, en, h1, h4, _, rfl⟩ := h
  obtain ⟨q1, q2, q3⟩ := hR.facts
  obtain ⟨q4, q5⟩ := rdE_ok q3
  have q6 : ∀ x ∈ out, okMsg x = true := fun x hx => q5 x (q1 x hx)
  have q7 : 0 ≤ n1.m ∧ n1.m ≤ 100000 := (okMsg_k (q6 _ (onS_mem (Nat.le_refl _) (gtG_mem h1)))).2
  have q8 : 0 ≤ en.m ∧ en.m ≤ 100000 := (okMsg_k (q6 _ (onS_mem (Nat.le_refl _) (gtG_mem h4)))).2
  have q9 := opS_bd (chkFr_bd hf) q6 q8 out.length (Nat.le_refl _)
  have q10 := chkFr_len hf
  exact ⟨n1, en, h1, h4, q7, q8, q9.1, by omega⟩
/-- What Laytime returns. -/
def LtR (c : Chr) (ws : List Low) (fr : List Fre) (l : List Msg) (lc : Lc) (e : Int) : Prop := (e ≠ 0 ∧ SgE c ws fr l e ∧ lc = ⟨0, 0, 0, 0⟩) ∨ (e = 0 ∧ chkCh c ws = 0 ∧ chkFr fr = 0 ∧ oneC l = true ∧ ∃ out ex n1 en ys, RdR l out 0 ∧ OpOk fr out ex ∧ gtG (onS out out.length) 1 = some n1 ∧ gtG (onS out out.length) 4 = some en ∧ List.Perm ys ex ∧ AscC cmpFr ys ∧ lc = cntP c.l en.m (n1.m + c.o) ys)
/-- The percent of the bonus at a level. -/
def pctP (ws : List Low) (lv : Int) : Int := match ws.find? fun x => decide (lv < x.b) with
  | none => 0
  | some x => x.p
theorem Laytime_c (c : Chr) (ws : List Low) (aw : Option Addr) (bw ow cw : Nat) (fr : List Fre) (af : Option Addr) (bf of_ cf : Nat) (l : List Msg) (al : Option Addr) (bl ol cl : Nat) (w0 : World) (hws : Sl encLow 2 w0 aw bw ow ws) (hwl : ws.length ≤ 1000000) (hfr : Sl encFre 2 w0 af bf of_ fr) (hfl : fr.length ≤ 1000000) (hl : Sl encMsg 6 w0 al bl ol l) (hll : l.length ≤ 1000000) (hpos : 0 < w0.heap.size) :
    CallsV Tryz.prog 66 [.agg #[.int .i64 c.s, .int .i64 c.c, .int .i64 c.k, .int .i64 c.r, .int .i64 c.n, .int .i64 c.l, .int .i64 c.o, .int .i64 c.d, .int .i64 c.e, .int .i64 c.m, .slice aw ws.length cw], .slice af fr.length cf, .slice al l.length cl] w0 (fun v w' => (∃ lc e, v = .tuple #[.agg (encLc lc).toArray, .int .i64 e] ∧ LtR c ws fr l lc e) ∧ Ext w0 w') := by
 refine f_n func66 ?_
 refine go ?_
 refine x_b fun bk2 w3 ebk2 sbk2 B4 u5 => ?_
 refine x_n fun bk7 w8 ebk7 sbk7 B9 u10 => ?_
 have E11 := Sc.mk (((Upd.refl (fun _ => False) w0).nx u5).nx u10)
 refine go ?_
 refine x_c func118 rfl rfl (single_c c ws aw bw ow cw fr af bf of_ cf l al bl ol cl _ (hws.keep E11.u (fun _ h => h)) hwl (hfr.keep E11.u (fun _ h => h)) hfl (hl.keep E11.u (fun _ h => h)) hll (by omega)) ?_
 rintro _ w14 ⟨⟨pO, eO, rfl, hO⟩, u15⟩ zu15
 refine go ?_
 refine q_p (fun g18 => ?_) fun g18 => ?_
 ·
  refine go ?_
  refine x_s fun w21 sw21 B23 u22 => ?_
  refine go ?_
  refine f_ret2 (v1 := .agg #[.int .i64 0, .int .i64 0, .int .i64 0, .int .i64 0]) (v2 := .int .i64 eO) results66 ⟨_, _, rfl, run_loadVarN (vs := [.int .i64 0, .int .i64 0, .int .i64 0, .int .i64 0]) isAgg162 sizeOf162 rfl (B23.at.sub 0 4)⟩ rfl ?_
  obtain ⟨hp0, he0, hE⟩ := hO.resolve_right (fun h => g18 h.1)
  exact ⟨⟨⟨0, 0, 0, 0⟩, eO, rfl, .inl ⟨he0, hE, rfl⟩⟩, u_d⟩
 obtain ⟨e0, hc0, hf0, h1c, out, hRd, px, r, aE, gE, cE, ex, rfl, hB, hM, hA, hOk⟩ := hO.resolve_left (fun h => h.2.1 (by omega))
 subst e0
 obtain ⟨n1, en, hn1, hn4, hb1, hb4, hexb, hexl⟩ := hOk.data hRd hf0
 have hcr := okCh_rng hc0
 have hBl := hB.lt
 have lt_gE := hA.lt
 refine go ?_
 refine x_c func119 rfl rfl (count_c px c ws aw cw r aE gE cE w8.heap.size ex (onS out out.length) n1 en _ hB hM hA (by omega) hn1 hn4 hb1 hb4 (by omega) (by omega) hexb hexl) ?_
 rintro _ w27 ⟨⟨ys, hyp, hya, rfl⟩, u28⟩ zu28
 refine x_s fun w31 sw31 B33 u32 => ?_
 refine go ?_
 refine f_ret2 (v1 := .agg #[.int .i64 ((cntP c.l en.m (n1.m + c.o) ys).b), .int .i64 ((cntP c.l en.m (n1.m + c.o) ys).u), .int .i64 ((cntP c.l en.m (n1.m + c.o) ys).o), .int .i64 ((cntP c.l en.m (n1.m + c.o) ys).s)]) (v2 := .int .i64 0) results66 ⟨_, _, rfl, run_loadVarN (vs := [.int .i64 ((cntP c.l en.m (n1.m + c.o) ys).b), .int .i64 ((cntP c.l en.m (n1.m + c.o) ys).u), .int .i64 ((cntP c.l en.m (n1.m + c.o) ys).o), .int .i64 ((cntP c.l en.m (n1.m + c.o) ys).s)]) isAgg162 sizeOf162 rfl (B33.at.sub 0 4)⟩ rfl ?_
 exact ⟨⟨_, 0, rfl, .inr ⟨rfl, hc0, hf0, h1c, out, ex, n1, en, ys, hRd, hOk, hn1, hn4, hyp, hya, rfl⟩⟩, u_d⟩

end Go.Proofs.YtagmkfbbhfaceaaGreatDoor
namespace Go.Proofs.YtagmkfbbhfaceaaGreatDoor
open Go Go.RowKit
set_option maxRecDepth 10000

structure Bl where
  f : Int
  o : Int
  d : Int
  e : Int
  c : Int
  t : Int
def lvP (m : List (Int × Msg)) : Int := match gtG m 6 with
  | none => 0
  | some x => x.v
/-- A call settled. -/
def blP (c : Chr) (ws : List Low) (tv lv : Int) (lc : Lc) : Bl :=
  ⟨c.r * max tv c.n, rnd2 (c.r * max tv c.n * pctP ws lv) 100, rnd2 (lc.o * c.d) 1440, rnd2 (lc.s * c.e) 1440, rnd2 ((c.r * max tv c.n + rnd2 (c.r * max tv c.n * pctP ws lv) 100) * c.m) 100,
    c.r * max tv c.n + rnd2 (c.r * max tv c.n * pctP ws lv) 100 + rnd2 (lc.o * c.d) 1440 - rnd2 (lc.s * c.e) 1440⟩
/-- What bill returns. -/
def BlR (c : Chr) (ws : List Low) (ex : List Fre) (m : List (Int × Msg)) (n1 en : Msg) (b : Bl) (e : Int) : Prop := (e = 7 ∧ b = ⟨0, 0, 0, 0, 0, 0⟩ ∧ (gtG m 5 = none ∨ (gtG m 6 = none ∧ 0 < ws.length))) ∨
  (e = 0 ∧ ∃ t5 ys, gtG m 5 = some t5 ∧ (gtG m 6 = none → ws.length = 0) ∧ List.Perm ys ex ∧ AscC cmpFr ys ∧ b = blP c ws t5.v (lvP m) (cntP c.l en.m (n1.m + c.o) ys))

end Go.Proofs.YtagmkfbbhfaceaaGreatDoor
namespace Go.Proofs.YtagmkfbbhfaceaaGreatDoor
open Go Go.RowKit
set_option maxRecDepth 10000

/-- What Bill returns. -/
def BiR (c : Chr) (ws : List Low) (fr : List Fre) (l : List Msg) (b : Bl) (e : Int) : Prop := (e ≠ 0 ∧ SgE c ws fr l e ∧ b = ⟨0, 0, 0, 0, 0, 0⟩) ∨ (chkCh c ws = 0 ∧ chkFr fr = 0 ∧ oneC l = true ∧ ∃ out ex n1 en, RdR l out 0 ∧ OpOk fr out ex ∧ gtG (onS out out.length) 1 = some n1 ∧ gtG (onS out out.length) 4 = some en ∧ BlR c ws ex (onS out out.length) n1 en b e)

end Go.Proofs.YtagmkfbbhfaceaaGreatDoor
namespace Go.Proofs.YtagmkfbbhfaceaaGreatDoor
open Go Go.RowKit
set_option maxRecDepth 10000

/-- Two lists in strict order with the same members are one. -/
theorem sorted_ext {α : Type} {R : α → α → Prop} (ha : ∀ a b, R a b → ¬ R b a) : ∀ {xs ys : List α}, xs.Pairwise R → ys.Pairwise R → (∀ x, x ∈ xs ↔ x ∈ ys) → xs = ys
  | [], [], _, _, _ => rfl
  | [], y :: ys, _, _, h => absurd ((h y).2 (by simp)) (by simp)
  | x :: xs, [], _, _, h => absurd ((h x).1 (by simp)) (by simp)
  | x :: xs, y :: ys, hx, hy, h => by
    rw [List.pairwise_cons] at hx hy
    have e : x = y := by
      rcases List.mem_cons.1 ((h x).1 (by simp)) with q | q
      · exact q
      · rcases List.mem_cons.1 ((h y).2 (by simp)) with q2 | q2
        · exact q2.symm
        · exact absurd (hx.1 y q2) (ha _ _ (hy.1 x q))
    subst e
    have i1 : ∀ z, z ∈ xs → z ≠ x := fun z hz e => ha x x (by have := hx.1 z hz; rwa [e] at this) (by have := hx.1 z hz; rwa [e] at this)
    have i2 : ∀ z, z ∈ ys → z ≠ x := fun z hz e => ha x x (by have := hy.1 z hz; rwa [e] at this) (by have := hy.1 z hz; rwa [e] at this)
    rw [sorted_ext ha hx.2 hy.2 (fun z => ⟨fun hz => (List.mem_cons.1 ((h z).1 (List.mem_cons_of_mem _ hz))).resolve_left (i1 z hz), fun hz => (List.mem_cons.1 ((h z).2 (List.mem_cons_of_mem _ hz))).resolve_left (i2 z hz)⟩)]
theorem AscC.pw {α : Type} [Inhabited α] {c : α → α → Int} {ys : List α} (h : AscC c ys) : ys.Pairwise (fun a b => ¬ c b a < 0) := List.pairwise_iff_getElem.2 fun i j hi hj hij => by
  have := h i j hij hj
  rwa [nth_eq hi, nth_eq hj] at this
section
variable {α β : Type} [DecidableEq α]
theorem gtR_upRF (a : α) (v : β) (b : α) : ∀ (m : List (α × β)), gtR b (upR a v m) = if b = a then some v else gtR b m
  | [] => by
    unfold upR gtR
    split <;> rfl
  | p :: m => by
    unfold upR
    split
    · rename_i e
      unfold gtR
      by_cases q : b = a
      · simp [q]
      · rw [if_neg q, if_neg q, if_neg (by rw [← e]; exact q)]
    · rename_i e
      rw [gtR, gtR_upRF a v b m]
      by_cases q : b = a
      · subst q; rw [if_neg e, if_pos rfl, if_pos rfl]
      · rw [if_neg q, if_neg q, gtR]
theorem upR_key (a : α) (v : β) : ∀ (m : List (α × β)) {k : α}, k ∈ (upR a v m).map (·.1) → k = a ∨ k ∈ m.map (·.1)
  | [], k, h => by simp [upR] at h; exact .inl h
  | p :: m, k, h => by
    unfold upR at h
    split at h
    · rcases List.mem_cons.1 h with q | q
      · exact .inl q
      · exact .inr (List.mem_cons_of_mem _ q)
    · rcases List.mem_cons.1 h with q | q
      · exact .inr (by rw [q]; simp)
      · exact (upR_key a v m q).imp_right (List.mem_cons_of_mem _)
theorem upR_nodup (a : α) (v : β) : ∀ {m : List (α × β)}, (m.map (·.1)).Nodup → ((upR a v m).map (·.1)).Nodup
  | [], _ => by simp [upR]
  | p :: m, h => by
    rw [List.map_cons, List.nodup_cons] at h
    unfold upR
    split
    · rename_i e
      rw [List.map_cons, List.nodup_cons]
      exact ⟨by rw [e]; exact h.1, h.2⟩
    · rename_i e
      rw [List.map_cons, List.nodup_cons]
      exact ⟨fun q => (upR_key a v m q).elim (fun q => e q.symm) h.1, upR_nodup a v h.2⟩
theorem gtR_mem {a : α} {v : β} : ∀ {m : List (α × β)}, gtR a m = some v → (a, v) ∈ m
  | [], h => by cases h
  | p :: m, h => by
    unfold gtR at h
    split at h
    · rename_i e
      simp only [Option.some.injEq] at h
      rw [e, ← h]; simp
    · exact List.mem_cons_of_mem _ (gtR_mem h)
theorem mem_gtR {a : α} {v : β} : ∀ {m : List (α × β)}, (m.map (·.1)).Nodup → (a, v) ∈ m → gtR a m = some v
  | [], _, h => by cases h
  | p :: m, hn, h => by
    rw [List.map_cons, List.nodup_cons] at hn
    unfold gtR
    rcases List.mem_cons.1 h with q | q
    · rw [← q]; simp
    · rw [if_neg (fun e => hn.1 (by rw [← e]; exact List.mem_map.2 ⟨_, q, rfl⟩))]
      exact mem_gtR hn.2 q
end
/-- What the editions' map holds. -/
theorem edS_at {l : List Msg} : ∀ {k : Nat}, k ≤ l.length → ∀ e, (∀ o, gtR e (edS l k) = some o → o ∈ l.take k ∧ edK o = e) ∧ (gtR e (edS l k) = none → ∀ m ∈ l.take k, edK m ≠ e)
  | 0, _, e => ⟨fun o h => (by cases h), fun _ m h => (by simp at h)⟩
  | k + 1, hk, e => by
    obtain ⟨h1, h2⟩ := edS_at (l := l) (k := k) (by omega) e
    rw [edS, upG_eq, gtR_upRF, take_nth (show k < l.length by omega)]
    by_cases q : e = edK (nth l k)
    · rw [if_pos q]
      exact ⟨fun o h => by simp only [Option.some.injEq] at h; subst h; exact ⟨by simp, q.symm⟩, fun h => by cases h⟩
    · rw [if_neg q]
      refine ⟨fun o h => ⟨List.mem_append_left _ (h1 o h).1, (h1 o h).2⟩, fun h m hm => ?_⟩
      rcases List.mem_append.1 hm with hm | hm
      · exact h2 h m hm
      · rw [List.mem_singleton.1 hm]; exact fun e9 => q e9.symm
/-- No two messages of one edition differ. -/
def NoEd (l : List Msg) : Prop := ∀ a ∈ l, ∀ b ∈ l, edK a = edK b → a = b
theorem noEd_of {l : List Msg} (h : ∀ k, k < l.length → ¬ edErr l k) : NoEd l := by
  have key : ∀ k, k ≤ l.length → ∀ a ∈ l.take k, ∀ b ∈ l.take k, edK a = edK b → a = b := by
    intro k
    induction k with
    | zero => intro _ a ha; simp at ha
    | succ k ih =>
      intro hk
      have one : ∀ a ∈ l.take k, edK a = edK (nth l k) → a = nth l k := fun a ha e => by
        obtain ⟨h1, h2⟩ := edS_at (l := l) (k := k) (by omega) (edK (nth l k))
        cases hg : gtR (edK (nth l k)) (edS l k) with
        | none => exact absurd e (h2 hg a ha)
        | some o =>
          obtain ⟨h3, h4⟩ := h1 o hg
          have h5 : o = nth l k := Classical.byContradiction fun q => h k (by omega) ⟨o, by rw [gtG_eq]; exact hg, q⟩
          rw [← h5]
          exact ih (by omega) a ha o h3 (by rw [e, h4])
      intro a ha b hb e
      rw [take_nth (show k < l.length by omega)] at ha hb
      rcases List.mem_append.1 ha with ha | ha <;> rcases List.mem_append.1 hb with hb | hb
      · exact ih (by omega) a ha b hb e
      · rw [List.mem_singleton.1 hb] at e ⊢; exact one a ha e
      · rw [List.mem_singleton.1 ha] at e ⊢; exact (one b hb e.symm).symm
      · rw [List.mem_singleton.1 ha, List.mem_singleton.1 hb]
  have := key l.length (Nat.le_refl _)
  rw [List.take_length] at this
  exact this
theorem not_edErr {l : List Msg} (h : NoEd l) {k : Nat} (hk : k < l.length) : ¬ edErr l k := fun ⟨o, hg, hn⟩ => by
  rw [gtG_eq] at hg
  obtain ⟨h1, h2⟩ := (edS_at (l := l) (k := k) (by omega) _).1 o hg
  exact hn (h o (List.mem_of_mem_take h1) _ (nth_mem hk) h2)
/-- What the map of the latest revisions holds. -/
theorem laS_at {l : List Msg} : ∀ {k : Nat}, k ≤ l.length → ((laS l k).map (·.1)).Nodup ∧ ∀ e, (∀ o, gtR e (laS l k) = some o → o ∈ l.take k ∧ keK o = e ∧ ∀ m ∈ l.take k, keK m = e → m.r ≤ o.r) ∧ (gtR e (laS l k) = none → ∀ m ∈ l.take k, keK m ≠ e)
  | 0, _ => ⟨by simp [laS], fun e => ⟨fun o h => (by cases h), fun _ m h => (by simp at h)⟩⟩
  | k + 1, hk => by
    obtain ⟨h0, h12⟩ := laS_at (l := l) (k := k) (by omega)
    rw [take_nth (show k < l.length by omega)]
    by_cases hq : laOld (laS l k) (nth l k) = true
    · rw [laS, if_pos hq, upG_eq]
      refine ⟨upR_nodup _ _ h0, fun e => ?_⟩
      obtain ⟨h1, h2⟩ := h12 e
      rw [gtR_upRF]
      by_cases q : e = keK (nth l k)
      · rw [if_pos q]
        refine ⟨fun o h => ?_, fun h => by cases h⟩
        simp only [Option.some.injEq] at h
        subst h
        refine ⟨by simp, q.symm, fun m hm hk9 => ?_⟩
        rcases List.mem_append.1 hm with hm | hm
        · unfold laOld at hq
          rw [gtG_eq, ← q] at hq
          cases hg : gtR e (laS l k) with
          | none => exact absurd hk9 (h2 hg m hm)
          | some o =>
            rw [hg] at hq
            have h3 := (h1 o hg).2.2 m hm hk9
            simp only [decide_eq_true_eq] at hq
            omega
        · rw [List.mem_singleton.1 hm]; exact Int.le_refl _
      · rw [if_neg q]
        refine ⟨fun o h => ⟨List.mem_append_left _ (h1 o h).1, (h1 o h).2.1, fun m hm hk9 => ?_⟩, fun h m hm => ?_⟩
        · rcases List.mem_append.1 hm with hm | hm
          · exact (h1 o h).2.2 m hm hk9
          · rw [List.mem_singleton.1 hm] at hk9; exact absurd hk9.symm q
        · rcases List.mem_append.1 hm with hm | hm
          · exact h2 h m hm
          · rw [List.mem_singleton.1 hm]; exact fun e9 => q e9.symm
    · rw [laS, if_neg hq]
      refine ⟨h0, fun e => ?_⟩
      obtain ⟨h1, h2⟩ := h12 e
      have old : ∃ v, gtR (keK (nth l k)) (laS l k) = some v ∧ (nth l k).r ≤ v.r := by
        unfold laOld at hq
        rw [gtG_eq] at hq
        cases hg : gtR (keK (nth l k)) (laS l k) with
        | none => rw [hg] at hq; simp at hq
        | some v => rw [hg] at hq; simp only [decide_eq_true_eq] at hq; exact ⟨v, rfl, by omega⟩
      obtain ⟨v, hv, hr⟩ := old
      refine ⟨fun o h => ⟨List.mem_append_left _ (h1 o h).1, (h1 o h).2.1, fun m hm hk9 => ?_⟩, fun h m hm => ?_⟩
      · rcases List.mem_append.1 hm with hm | hm
        · exact (h1 o h).2.2 m hm hk9
        · rw [List.mem_singleton.1 hm] at hk9 ⊢
          rw [hk9, h] at hv
          simp only [Option.some.injEq] at hv
          subst hv; exact hr
      · rcases List.mem_append.1 hm with hm | hm
        · exact h2 h m hm
        · rw [List.mem_singleton.1 hm]
          intro e9
          rw [e9, h] at hv
          cases hv
/-- A fact: the latest revision of its message, and not withdrawn. -/
def LastIn (l : List Msg) (x : Msg) : Prop := x ∈ l ∧ x.k ≠ 7 ∧ ∀ m ∈ l, m.c = x.c → m.n = x.n → m.r ≤ x.r
abbrev FLt (a b : Msg) : Prop := cmpF a b < 0
theorem FLt.asym (a b : Msg) (h : FLt a b) : ¬ FLt b a := by
  unfold FLt at *
  rw [cmpF_lt] at *
  omega
theorem cmpF_ne {a b : Msg} (h : ¬ cmpF b a < 0) (hn : keK a ≠ keK b) : cmpF a b < 0 := by
  have : ¬ (a.c = b.c ∧ a.n = b.n) := fun q => hn (by unfold keK; rw [q.1, q.2])
  rw [cmpF_lt] at *
  omega
theorem RdR.spec {l out : List Msg} (h : RdR l out 0) : rdE l = 0 ∧ NoEd l ∧ out.Pairwise FLt ∧ ∀ x, x ∈ out ↔ LastIn l x := by
  rcases h with ⟨h1, h2, _⟩ | ⟨_, h2, _⟩ | ⟨h0, _, hne, hp, ha⟩
  · omega
  · omega
  · have hE := noEd_of hne
    obtain ⟨hn, hl⟩ := laS_at (l := l) (k := l.length) (Nat.le_refl _)
    rw [List.take_length] at hl
    have keyp : ∀ p ∈ laS l l.length, p.1 = keK p.2 := fun p hp => ((hl p.1).1 p.2 (mem_gtR hn hp)).2.1.symm
    refine ⟨h0, hE, ?_, fun x => ?_⟩
    · have h3 : out.Pairwise (fun a b => keK a ≠ keK b) := by
        refine hp.symm.pairwise ?_ (fun {a b} q => fun e => q e.symm)
        refine List.Pairwise.filter _ ?_
        rw [List.pairwise_map]
        have h4 := hn
        unfold List.Nodup at h4
        rw [List.pairwise_map] at h4
        exact h4.imp_of_mem (fun ha hb q e => q (by rw [keyp _ ha, keyp _ hb, e]))
      exact (ha.pw.and h3).imp (fun q => cmpF_ne q.1 q.2)
    · rw [hp.mem_iff, List.mem_filter, List.mem_map]
      constructor
      · rintro ⟨⟨p, hp9, rfl⟩, hk⟩
        have h5 := (hl p.1).1 p.2 (mem_gtR hn hp9)
        exact ⟨h5.1, by simpa using hk, fun m hm hc hn9 => h5.2.2 m hm (by rw [keyp p hp9]; unfold keK; rw [hc, hn9])⟩
      · rintro ⟨hx, hk, hr⟩
        refine ⟨?_, by simpa using hk⟩
        cases hg : gtR (keK x) (laS l l.length) with
        | none => exact absurd rfl ((hl (keK x)).2 hg x hx)
        | some o =>
          obtain ⟨h6, h7, h8⟩ := (hl (keK x)).1 o hg
          have hc : o.c = x.c := congrArg Prod.fst h7
          have hn9 : o.n = x.n := congrArg Prod.snd h7
          have h9 := h8 x hx rfl
          have h10 := hr o h6 hc hn9
          have e : o = x := hE o h6 x hx (by unfold edK; rw [hc, hn9, show o.r = x.r by omega])
          exact ⟨_, gtR_mem hg, e⟩
theorem RdR.err {l out : List Msg} {e : Int} (h : RdR l out e) : (rdE l ≠ 0 ∧ e = rdE l ∧ out = []) ∨ (rdE l = 0 ∧ ¬ NoEd l ∧ e = 6 ∧ out = []) ∨ (rdE l = 0 ∧ NoEd l ∧ e = 0) := by
  rcases h with ⟨h1, h2, h3⟩ | ⟨h0, h2, h3, k, hk, he⟩ | ⟨h0, h2, hne, _⟩
  · exact .inl ⟨h1, h2, h3⟩
  · exact .inr (.inl ⟨h0, fun q => not_edErr q hk he, h2, h3⟩)
  · exact .inr (.inr ⟨h0, noEd_of hne, h2⟩)
end Go.Proofs.YtagmkfbbhfaceaaGreatDoor
namespace Go.Proofs.YtagmkfbbhfaceaaGreatDoor
open Go Go.RowKit
set_option maxRecDepth 10000

/-- Laytime minute by minute: what is used, and over, of the minutes behind the begin. -/
structure MnS where
  u : Int
  o : Int
def mnK (L b : Int) (p : Int → Bool) : Nat → MnS
  | 0 => ⟨0, 0⟩
  | i + 1 => if (mnK L b p i).u = L then ⟨L, (mnK L b p i).o + 1⟩ else if p (b + (i : Int)) = true then mnK L b p i else ⟨(mnK L b p i).u + 1, (mnK L b p i).o⟩
theorem mnK_run {L b : Int} {p : Int → Bool} {i : Nat} {u : Int} (h : mnK L b p i = ⟨u, 0⟩) : ∀ (m : Nat), u + (m : Int) ≤ L → (∀ j : Nat, j < m → p (b + (i : Int) + (j : Int)) = false) → mnK L b p (i + m) = ⟨u + (m : Int), 0⟩
  | 0, _, _ => by simpa using h
  | m + 1, hu, hp => by
    have ih := mnK_run h m (by omega) (fun j hj => hp j (by omega))
    have h1 := hp m (by omega)
    rw [← Nat.add_assoc, mnK, ih]
    rw [if_neg (show ¬ u + (m : Int) = L by omega), show b + ((i + m : Nat) : Int) = b + (i : Int) + (m : Int) by omega, h1]
    simp only [Bool.false_eq_true, if_false, MnS.mk.injEq, and_true]
    omega
theorem mnK_idle {L b : Int} {p : Int → Bool} {i : Nat} {s : MnS} (h : mnK L b p i = s) (hu : s.u ≠ L) : ∀ (m : Nat), (∀ j : Nat, j < m → p (b + (i : Int) + (j : Int)) = true) → mnK L b p (i + m) = s
  | 0, _ => h
  | m + 1, hp => by
    have ih := mnK_idle h hu m (fun j hj => hp j (by omega))
    have h1 := hp m (by omega)
    rw [← Nat.add_assoc, mnK, ih, if_neg hu, show b + ((i + m : Nat) : Int) = b + (i : Int) + (m : Int) by omega, if_pos h1]
theorem mnK_over {L b : Int} {p : Int → Bool} {i : Nat} {o : Int} (h : mnK L b p i = ⟨L, o⟩) : ∀ (m : Nat), mnK L b p (i + m) = ⟨L, o + (m : Int)⟩
  | 0 => by simpa using h
  | m + 1 => by
    rw [← Nat.add_assoc, mnK, mnK_over h m, if_pos rfl]
    simp only [MnS.mk.injEq, true_and]
    omega
/-- A minute that is excepted. -/
def exc (fs : List Fre) (t : Int) : Bool := fs.any fun f => decide (f.f ≤ t ∧ t < f.t)
theorem exc_no {fs : List Fre} {t : Int} (h : ∀ f ∈ fs, ¬ (f.f ≤ t ∧ t < f.t)) : exc fs t = false := by
  unfold exc
  rw [List.any_eq_false]
  intro f hf
  simpa using h f hf
theorem exc_yes {fs : List Fre} {f : Fre} {t : Int} (hf : f ∈ fs) (h : f.f ≤ t ∧ t < f.t) : exc fs t = true := List.any_eq_true.2 ⟨f, hf, decide_eq_true h⟩
theorem exc_same {fs gs : List Fre} (h : ∀ f, f ∈ fs ↔ f ∈ gs) : exc fs = exc gs := by
  funext t
  rw [Bool.eq_iff_iff]
  unfold exc
  rw [List.any_eq_true, List.any_eq_true]
  exact ⟨fun ⟨f, h1, h2⟩ => ⟨f, (h f).1 h1, h2⟩, fun ⟨f, h1, h2⟩ => ⟨f, (h f).2 h1, h2⟩⟩
def lcM (L en b : Int) (p : Int → Bool) : Lc := ⟨b, (mnK L b p (en - b).toNat).u, (mnK L b p (en - b).toNat).o, if (mnK L b p (en - b).toNat).o = 0 then L - (mnK L b p (en - b).toNat).u else 0⟩
structure CtI (L en b : Int) (ys : List Fre) (k : Nat) (s : CtS) : Prop where
  a1 : b ≤ s.a
  a2 : s.a ≤ max b en
  u0 : 0 ≤ s.u ∧ s.u ≤ L
  mn : mnK L b (exc ys) (s.a - b).toNat = ⟨s.u, 0⟩
  ex : s.u < L → ∀ j, j < k → j < ys.length → ∀ t, s.a ≤ t → t < en → ¬ ((nth ys j).f ≤ t ∧ t < (nth ys j).t)
  fin : s.u < L → k = ys.length + 1 → en ≤ s.a
theorem nth_app1 {α : Type} [Inhabited α] {xs ys : List α} {i : Nat} (h : i < xs.length) : nth (xs ++ ys) i = nth xs i := by
  rw [nth_eq (by rw [List.length_append]; omega), nth_eq h, List.getElem_append_left h]
theorem nth_app2 {α : Type} [Inhabited α] {xs : List α} {y : α} : nth (xs ++ [y]) xs.length = y := by
  rw [nth_eq (by simp)]; simp
theorem ctI_step {L en b : Int} {ys : List Fre} (hs : AscC cmpFr ys) {k : Nat} (hk : k < ys.length + 1) {s : CtS} (h : CtI L en b ys k s) : CtI L en b ys (k + 1) (ctStep L en s (nth (ys ++ [⟨en, en⟩]) k)) := by
  by_cases hu : s.u = L
  · rw [ctStep, if_pos hu]
    exact ⟨h.a1, h.a2, h.u0, h.mn, fun q => by omega, fun q => by omega⟩
  · rw [ctStep, if_neg hu]
    have hx : (k < ys.length ∧ nth (ys ++ [(⟨en, en⟩ : Fre)]) k = nth ys k) ∨ (k = ys.length ∧ nth (ys ++ [(⟨en, en⟩ : Fre)]) k = ⟨en, en⟩) := by
      rcases Nat.lt_or_ge k ys.length with q | q
      · exact .inl ⟨q, nth_app1 q⟩
      · obtain rfl : k = ys.length := by omega
        exact .inr ⟨rfl, nth_app2⟩
    generalize nth (ys ++ [(⟨en, en⟩ : Fre)]) k = f at hx
    obtain ⟨h1, h2, h3, h4, h5, h6⟩ := h
    have hlt : s.u < L := by omega
    have hm0 : 0 ≤ ctUse L en s f ∧ ctUse L en s f ≤ L - s.u ∧ ctUse L en s f ≤ max 0 (min f.f en - s.a) ∧ (ctUse L en s f < L - s.u → ctUse L en s f = max 0 (min f.f en - s.a)) := by
      unfold ctUse; omega
    generalize ctUse L en s f = m at hm0
    obtain ⟨m1, m2, m3, m4⟩ := hm0
    -- minutes that count
    have hfree : ∀ j : Nat, j < m.toNat → exc ys (b + ((s.a - b).toNat : Int) + (j : Int)) = false := fun j hj => exc_no fun y hy q => by
      obtain ⟨i, hi, rfl⟩ := List.mem_iff_getElem.1 hy
      rw [← nth_eq hi] at q
      rcases Nat.lt_or_ge i k with hik | hik
      · exact h5 hlt i hik hi (b + ((s.a - b).toNat : Int) + (j : Int)) (by omega) (by omega) q
      · rcases hx with ⟨hk9, rfl⟩ | ⟨hk9, _⟩
        · rcases Nat.lt_or_eq_of_le hik with q9 | q9
          · have := hs k i q9 hi
            unfold cmpFr at this
            omega
          · subst q9; omega
        · omega
    have hrun := mnK_run (p := exc ys) h4 m.toNat (by omega) hfree
    have e1 : (s.a + m - b).toNat = (s.a - b).toNat + m.toNat := by omega
    have e2 : s.u + (m.toNat : Int) = s.u + m := by omega
    rw [← e1, e2] at hrun
    by_cases hq : s.u + m < L
    · have hm9 := m4 (by omega)
      simp only [if_pos hq]
      have hidle := mnK_idle hrun (show s.u + m ≠ L by omega) (max (s.a + m) (min f.t en) - (s.a + m)).toNat (fun j hj => by
        rcases hx with ⟨hk9, rfl⟩ | ⟨hk9, rfl⟩
        · exact exc_yes (nth_mem hk9) (by omega)
        · simp only at hj hm9; omega)
      have e3 : (s.a + m - b).toNat + (max (s.a + m) (min f.t en) - (s.a + m)).toNat = (max (s.a + m) (min f.t en) - b).toNat := by omega
      rw [e3] at hidle
      refine ⟨by show b ≤ max _ _; omega, by show max _ _ ≤ _; omega, by show 0 ≤ s.u + m ∧ s.u + m ≤ L; omega, hidle, fun _ j hj hjl t ht1 ht2 q => ?_, fun _ hk9 => ?_⟩
      · simp only at ht1
        rcases Nat.lt_succ_iff_lt_or_eq.1 hj with q9 | q9
        · exact h5 hlt j q9 hjl t (by omega) ht2 q
        · subst q9
          rcases hx with ⟨_, rfl⟩ | ⟨hk9, _⟩
          · omega
          · omega
      · rcases hx with ⟨_, _⟩ | ⟨_, rfl⟩
        · omega
        · show en ≤ max (s.a + m) (min en en); omega
    · simp only [if_neg hq]
      exact ⟨by show b ≤ s.a + m; omega, by show s.a + m ≤ _; omega, by show 0 ≤ s.u + m ∧ s.u + m ≤ L; omega, hrun, fun q => absurd q (by show ¬ s.u + m < L; omega), fun q => absurd q (by show ¬ s.u + m < L; omega)⟩
theorem ctI_all {L en b : Int} {ys : List Fre} (hL : 0 ≤ L) (hs : AscC cmpFr ys) : ∀ k, k ≤ ys.length + 1 → CtI L en b ys k (ctS L en b (ys ++ [⟨en, en⟩]) k)
  | 0, _ => ⟨Int.le_refl _, by show b ≤ max b en; omega, ⟨Int.le_refl _, hL⟩, by show mnK L b _ (b - b).toNat = _; rw [Int.sub_self]; rfl, fun _ j hj => absurd hj (Nat.not_lt_zero _), fun _ h => by omega⟩
  | k + 1, hk => ctI_step hs (by omega) (ctI_all hL hs k (by omega))
/-- Laytime counted from one excepted time to the next one is laytime counted minute by minute. -/
theorem cntP_mn {L en b : Int} {ys : List Fre} (hL : 0 ≤ L) (hs : AscC cmpFr ys) : cntP L en b ys = lcM L en b (exc ys) := by
  obtain ⟨h1, h2, h3, h4, h5, h6⟩ := ctI_all (en := en) (b := b) hL hs (ys.length + 1) (Nat.le_refl _)
  unfold cntP lcM
  generalize ctS L en b (ys ++ [⟨en, en⟩]) (ys.length + 1) = s at *
  by_cases hu : s.u = L
  · have hN : mnK L b (exc ys) (en - b).toNat = ⟨L, max 0 (en - s.a)⟩ := by
      rw [hu] at h4
      by_cases q : s.a ≤ en
      · have := mnK_over h4 (en - s.a).toNat
        rw [show (s.a - b).toNat + (en - s.a).toNat = (en - b).toNat by omega] at this
        rw [this]
        simp only [MnS.mk.injEq, true_and]; omega
      · rw [show (en - b).toNat = (s.a - b).toNat by omega, h4]
        simp only [MnS.mk.injEq, true_and]; omega
    simp only [hN, hu, if_true]
  · have ha := h6 (by omega) rfl
    have hN : mnK L b (exc ys) (en - b).toNat = ⟨s.u, 0⟩ := by rw [show (en - b).toNat = (s.a - b).toNat by omega, h4]
    simp only [hN, if_neg hu]

end Go.Proofs.YtagmkfbbhfaceaaGreatDoor
namespace Go.Proofs.YtagmkfbbhfaceaaGreatDoor
open Go Go.RowKit
set_option maxRecDepth 10000

def onErrB (l : List Msg) (k : Nat) : Bool := !(decide ((nth l k).k = 2 ∨ (nth l k).k = 3)) && (gtG (onS l k) (nth l k).k).isSome
theorem onErr_iff {l : List Msg} {k : Nat} : onErr l k ↔ onErrB l k = true := by
  unfold onErr onErrB
  cases gtG (onS l k) (nth l k).k <;> simp
instance (la k : Int) : Decidable (opGo la k) := by unfold opGo; infer_instance
instance (en : Int) (fr : List Fre) (l : List Msg) (k : Nat) : Decidable (opBad en fr l k) := by unfold opBad; infer_instance
theorem any_range {n : Nat} {p : Nat → Bool} : (List.range n).any p = true ↔ ∃ k, k < n ∧ p k = true := by
  rw [List.any_eq_true]
  exact ⟨fun ⟨k, h1, h2⟩ => ⟨k, List.mem_range.1 h1, h2⟩, fun ⟨k, h1, h2⟩ => ⟨k, List.mem_range.2 h1, h2⟩⟩
/-- The error of the order of facts. -/
def opEB (fr : List Fre) (l : List Msg) : Int := if (List.range l.length).any (fun k => onErrB l k) = true then 6 else match gtG (onS l l.length) 1, gtG (onS l l.length) 4 with
  | some _, some en => if (List.range l.length).any (fun k => decide (opBad en.m fr l k)) = true then 9 else 0
  | _, _ => 7
theorem no_any {l : List Msg} (h : ∀ k, k < l.length → ¬ onErr l k) : ¬ (List.range l.length).any (fun k => onErrB l k) = true := fun q => by
  obtain ⟨k, h1, h2⟩ := any_range.1 q
  exact h k h1 (onErr_iff.2 h2)
theorem OpE.eq {fr : List Fre} {l : List Msg} {e : Int} (h : OpE fr l e) : e = opEB fr l ∧ e ≠ 0 := by
  unfold opEB
  rcases h with ⟨rfl, k, hk, hq⟩ | ⟨rfl, hn, hq⟩ | ⟨rfl, hn, n1, en, h1, h4, k, hk, hq⟩
  · rw [if_pos (any_range.2 ⟨k, hk, onErr_iff.1 hq⟩)]; exact ⟨rfl, by decide⟩
  · rw [if_neg (no_any hn)]
    rcases hq with hq | hq
    · rw [hq]; exact ⟨rfl, by decide⟩
    · rw [hq]
      refine ⟨?_, by decide⟩
      cases gtG (onS l l.length) 1 <;> rfl
  · rw [if_neg (no_any hn), h1, h4]
    simp only
    rw [if_pos (any_range.2 ⟨k, hk, decide_eq_true hq⟩)]; exact ⟨rfl, by decide⟩
theorem OpOk.eq {fr ex : List Fre} {l : List Msg} (h : OpOk fr l ex) : opEB fr l = 0 := by
  obtain ⟨hn, n1, en, h1, h4, hb, _⟩ := h
  unfold opEB
  rw [if_neg (no_any hn), h1, h4]
  simp only
  rw [if_neg (fun q => by obtain ⟨k, q1, q2⟩ := any_range.1 q; exact hb k q1 (of_decide_eq_true q2))]
/-- Laytime by facts. -/
def LtF (c : Chr) (fr : List Fre) (out : List Msg) (lc : Lc) : Prop := ∃ n1 en, gtG (onS out out.length) 1 = some n1 ∧ gtG (onS out out.length) 4 = some en ∧ lc = lcM c.l en.m (n1.m + c.o) (exc (opS en.m fr out out.length).ex)
theorem LtR.ok {c : Chr} {ws : List Low} {fr : List Fre} {l : List Msg} {lc : Lc} {e : Int} (h : LtR c ws fr l lc e) (h1 : chkCh c ws = 0) (h2 : chkFr fr = 0) (h3 : rdE l = 0) (h4 : NoEd l) (h5 : oneC l = true) :
    ∃ out, RdR l out 0 ∧ e = opEB fr out ∧ ((e ≠ 0 ∧ lc = ⟨0, 0, 0, 0⟩) ∨ (e = 0 ∧ LtF c fr out lc)) := by
  rcases h with ⟨he, hs, hl⟩ | ⟨rfl, _, _, _, out, ex, n1, en, ys, hR, hO, g1, g4, hp, ha, rfl⟩
  · rcases hs with ⟨q, _⟩ | ⟨_, q, _⟩ | ⟨_, _, _, o, hR⟩ | ⟨_, _, out, hR, ⟨q, _⟩ | ⟨_, hO⟩⟩
    · exact absurd h1 q
    · exact absurd h2 q
    · rcases hR.err with ⟨q, _⟩ | ⟨_, q, _⟩ | ⟨_, _, q⟩
      · exact absurd h3 q
      · exact absurd h4 q
      · exact absurd q he
    · rw [h5] at q; cases q
    · exact ⟨out, hR, hO.eq.1, .inl ⟨he, hl⟩⟩
  · refine ⟨out, hR, hO.eq.symm, .inr ⟨rfl, n1, en, g1, g4, ?_⟩⟩
    obtain ⟨_, n1', en', g1', g4', _, rfl⟩ := hO
    rw [g4] at g4'
    simp only [Option.some.injEq] at g4'
    subst g4'
    rw [cntP_mn (okCh_rng h1).2.2.2.2.1.1.1 ha, exc_same (fun f => hp.mem_iff)]
/-- A bill by facts. -/
def BlF (c : Chr) (ws : List Low) (fr : List Fre) (out : List Msg) (b : Bl) (e : Int) : Prop := ∃ n1 en, gtG (onS out out.length) 1 = some n1 ∧ gtG (onS out out.length) 4 = some en ∧
  ((e = 7 ∧ b = ⟨0, 0, 0, 0, 0, 0⟩ ∧ (gtG (onS out out.length) 5 = none ∨ (gtG (onS out out.length) 6 = none ∧ 0 < ws.length))) ∨
    (e = 0 ∧ ∃ t5, gtG (onS out out.length) 5 = some t5 ∧ (gtG (onS out out.length) 6 = none → ws.length = 0) ∧ b = blP c ws t5.v (lvP (onS out out.length)) (lcM c.l en.m (n1.m + c.o) (exc (opS en.m fr out out.length).ex))))
theorem BlR.toF {c : Chr} {ws : List Low} {fr ex : List Fre} {out : List Msg} {n1 en : Msg} {b : Bl} {e : Int} (h : BlR c ws ex (onS out out.length) n1 en b e) (hL : 0 ≤ c.l) (hO : OpOk fr out ex) (g1 : gtG (onS out out.length) 1 = some n1) (g4 : gtG (onS out out.length) 4 = some en) : BlF c ws fr out b e := by
  obtain ⟨_, n1', en', g1', g4', _, rfl⟩ := hO
  rw [g4] at g4'
  simp only [Option.some.injEq] at g4'
  subst g4'
  refine ⟨n1, en, g1, g4, ?_⟩
  rcases h with q | ⟨he, t5, ys, h5, h6, hp, ha, hb⟩
  · exact .inl q
  · refine .inr ⟨he, t5, h5, h6, ?_⟩
    rw [hb, cntP_mn hL ha, exc_same (fun f => hp.mem_iff)]
theorem BiR.ok {c : Chr} {ws : List Low} {fr : List Fre} {l : List Msg} {b : Bl} {e : Int} (h : BiR c ws fr l b e) (h1 : chkCh c ws = 0) (h2 : chkFr fr = 0) (h3 : rdE l = 0) (h4 : NoEd l) (h5 : oneC l = true) :
    ∃ out, RdR l out 0 ∧ ((e ≠ 0 ∧ e = opEB fr out ∧ b = ⟨0, 0, 0, 0, 0, 0⟩) ∨ (opEB fr out = 0 ∧ BlF c ws fr out b e)) := by
  rcases h with ⟨he, hs, hl⟩ | ⟨_, _, _, out, ex, n1, en, hR, hO, g1, g4, hb⟩
  · rcases hs with ⟨q, _⟩ | ⟨_, q, _⟩ | ⟨_, _, _, o, hR⟩ | ⟨_, _, out, hR, ⟨q, _⟩ | ⟨_, hO⟩⟩
    · exact absurd h1 q
    · exact absurd h2 q
    · rcases hR.err with ⟨q, _⟩ | ⟨_, q, _⟩ | ⟨_, _, q⟩
      · exact absurd h3 q
      · exact absurd h4 q
      · exact absurd q he
    · rw [h5] at q; cases q
    · exact ⟨out, hR, .inl ⟨he, hO.eq.1, hl⟩⟩
  · exact ⟨out, hR, .inr ⟨hO.eq, hb.toF (okCh_rng h1).2.2.2.2.1.1.1 hO g1 g4⟩⟩

end Go.Proofs.YtagmkfbbhfaceaaGreatDoor
