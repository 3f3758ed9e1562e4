/-
  Part 9 of the proof: contracts and plain laws. Conditions: none.
-/
import Derived.Test.YtclinbbghnebaaaGreatAK8
namespace Go.Proofs.YtclinbbghnebaaaGreat
open Go Go.RowKit Go.Proofs.Tryz
set_option maxRecDepth 10000

/-- Laytime that is used, and the minute that it has come to. -/
structure CtS where
  u : Int
  a : Int
def ctUse (L en : Int) (s : CtS) (f : Fre) : Int := min (max 0 (min f.f en - s.a)) (L - s.u)
def ctStep (L en : Int) (s : CtS) (f : Fre) : CtS := if s.u = L then s else ⟨s.u + ctUse L en s f, if s.u + ctUse L en s f < L then max (s.a + ctUse L en s f) (min f.t en) else s.a + ctUse L en s f⟩
def ctS (L en b : Int) (fs : List Fre) : Nat → CtS
  | 0 => ⟨0, b⟩
  | k + 1 => ctStep L en (ctS L en b fs k) (nth fs k)
theorem ctS_stop {L en b : Int} {fs : List Fre} {k : Nat} (h : (ctS L en b fs k).u = L) : ∀ j, ctS L en b fs (k + j) = ctS L en b fs k
  | 0 => rfl
  | j + 1 => by
    show ctStep L en (ctS L en b fs (k + j)) (nth fs (k + j)) = _
    rw [ctS_stop h j]
    exact if_pos h
theorem ctUse_rng {L en : Int} {s : CtS} {f : Fre} (hu : s.u ≤ L) (hf : 0 ≤ f.f ∧ f.f ≤ 100000) (ha : 0 ≤ s.a ∧ s.a ≤ 200000) : 0 ≤ ctUse L en s f ∧ ctUse L en s f ≤ L - s.u ∧ s.a + ctUse L en s f ≤ 200000 := by
  unfold ctUse; omega
structure Lc where
  b : Int
  u : Int
  o : Int
  s : Int
def encLc (x : Lc) : List Value := [.int .i64 x.b, .int .i64 x.u, .int .i64 x.o, .int .i64 x.s]
/-- Laytime counted. -/
def cntP (L en b : Int) (ys : List Fre) : Lc :=
  let s := ctS L en b (ys ++ [⟨en, en⟩]) (ys.length + 1)
  let o := if s.u = L then max 0 (en - s.a) else 0
  ⟨b, s.u, o, if o = 0 then L - s.u else 0⟩
set_option maxHeartbeats 4000000 in
theorem count_c (px : Nat) (c : Chr) (ws : List Low) (aw : Option Addr) (cw r : Nat) (aE : Option Addr) (gE cE base : Nat) (ex : List Fre) (m : List (Int × Msg)) (n1 en : Msg) (w0 : World) (hpx : Blk w0 px 224 [.int .i64 c.s, .int .i64 c.c, .int .i64 c.k, .int .i64 c.r, .int .i64 c.n, .int .i64 c.l, .int .i64 c.o, .int .i64 c.d, .int .i64 c.e, .int .i64 c.m, .slice aw ws.length cw, .map (some r), .slice aE ex.length cE]) (hm : MapG cd1 m w0 r) (hA : Acc encFre 2 138 base w0 aE gE cE ex) (_hb : base ≤ w0.heap.size) (hn1 : gtG m 1 = some n1) (hn4 : gtG m 4 = some en) (hb1 : 0 ≤ n1.m ∧ n1.m ≤ 100000) (hen : 0 ≤ en.m ∧ en.m ≤ 100000) (hco : 0 ≤ c.o ∧ c.o ≤ 100000) (hcl : 0 ≤ c.l ∧ c.l ≤ 100000) (hexb : ∀ x ∈ ex, (0 ≤ x.f ∧ x.f ≤ 100000) ∧ (0 ≤ x.t ∧ x.t ≤ 100000)) (hexl : ex.length ≤ 1000) :
    CallsV Tryz.prog 39 [.pointer (some ⟨px, 0, none⟩)] w0 (fun v w' => (∃ ys, List.Perm ys ex ∧ Asc cmpFr ys ∧ v = .agg (encLc (cntP c.l en.m (n1.m + c.o) ys)).toArray) ∧ Upd (fun i => i = gE ∧ base ≤ i) w0 w') := by
 have hcE := hA.cap_le
 have hpxl := hpx.lt
 have hml := hm.lt
 have hgl := hA.lt
 have hgr : gE < base ∨ gE ≠ r := (Nat.lt_or_ge _ _).imp_right (fun h => hA.neMap hm h)
 have hgp : gE < base ∨ gE ≠ px := (Nat.lt_or_ge _ _).imp_right (fun h => hA.neBlk hpx (by decide) h)
 refine f_n func39 ?_
 refine go ?_
 refine x_n fun bk2 w3 ebk2 sbk2 B4 u5 => ?_
 refine go ?_
 refine c_drawnM follows (fun i => i = bk2) (OTl [0, 2, 4, 6, 12, 14, 16, 18, 20, 9, 10, 22, 24, 27]) (by kernel_rfl) fun w8 u9 => ?_
 have zu9 := u9.size
 refine go ?_
 have D11 := ((hm.keep u5 (fun h => h)).keep u9 (fun h => h))
 refine t_getG (cd := cd1) (a := (1 : Int)) (m := m) (z := .agg #[.int .i64 0, .int .i64 0, .int .i64 0, .int .i64 0, .int .i64 0, .int .i64 0]) key1_ok underlying222 zeroValue135 rfl rfl rfl rfl D11 (t_same 12 (v := .agg #[.int .i64 n1.c, .int .i64 n1.n, .int .i64 n1.r, .int .i64 n1.k, .int .i64 n1.m, .int .i64 n1.v]) rfl (by rw [hn1]; rfl) ?_)
 refine go ?_
 refine x_s fun w12 sw12 B14 u13 => ?_
 refine go ?_
 refine c_drawnM follows (fun _ => False) (OTl [0, 2, 4, 6, 8, 10, 16, 13, 14, 18]) (by kernel_rfl) fun w17 u18 => ?_
 have zu18 := u18.size
 refine go ?_
 have D20 := ((D11.keep u13 (show ¬ (r = bk2) by omega)).keep u18 (fun h => h))
 refine t_getG (cd := cd1) (a := (4 : Int)) (m := m) (z := .agg #[.int .i64 0, .int .i64 0, .int .i64 0, .int .i64 0, .int .i64 0, .int .i64 0]) key1_ok underlying222 zeroValue135 rfl rfl rfl rfl D20 (t_same 27 (v := .agg #[.int .i64 en.c, .int .i64 en.n, .int .i64 en.r, .int .i64 en.k, .int .i64 en.m, .int .i64 en.v]) rfl (by rw [hn4]; rfl) ?_)
 refine go ?_
 have D22 := ((((hA.keep u5 (fun _ h => h)).keep u9 (fun _ h => h)).keep u13 (fun hb9 => show ¬ (gE = bk2) by first | omega | assumption)).keep u18 (fun _ h => h))
 refine x_c func100 rfl rfl (sortFr_c ex (fun x hx => (hexb x hx).1) aE gE cE base _ D22 (by omega)) ?_
 rintro _ w24 ⟨⟨rfl, ys, hyp, hya, hyA⟩, u25⟩ zu25
 have hysl := hyp.length_eq
 have lt_gE := hyA.lt
 refine go ?_
 refine x_c func102 rfl rfl (clipF_c ex aE cE _ hcE) ?_
 rintro _ w31 ⟨rfl, u32⟩ zu32
 refine go ?_
 refine x_l fun bk35 w36 ebk35 sbk35 B37 u38 => ?_
 have D40 := ((hyA.keep u32 (fun _ h => h)).keep u38 (fun _ h => h))
 refine t_appClip (z := .agg #[.int .i64 0, .int .i64 0]) (bytes := 16) (k := 2) (enc := encFre) (⟨en.m, en.m⟩ : Fre) underlying128 (by kernel_rfl) rfl (by decide) (fun _ => rfl) (by intro x; simp [encFre, Value.oneCell']) rfl rfl rfl rfl hysl.symm (by rw [subAddr0]; exact D40.sl (fun _ => rfl)) B37 (by omega) (by decide) (fun gF cF w41 A42 u43 hgF => ?_)
 have zu43 := u43.size
 have lt_gF := A42.lt
 have hfsl : (ys ++ [(⟨en.m, en.m⟩ : Fre)]).length = ys.length + 1 := List.length_append
 have hfsb : ∀ x ∈ (ys ++ [(⟨en.m, en.m⟩ : Fre)]), (0 ≤ x.f ∧ x.f ≤ 100000) ∧ (0 ≤ x.t ∧ x.t ≤ 100000) := fun x hx => by
   rcases List.mem_append.1 hx with h | h
   · exact hexb x (hyp.mem_iff.1 h)
   · rw [List.mem_singleton.1 h]; exact ⟨hen, hen⟩
 refine go ?_
 have B45 := (((((B14.kx u18).keep u25 (by omega)).kx u32).kx u38).kx u43)
 refine x_l1 (fun i => i = bk2) [0, 2, 4, 43, 44] (fun (k : Nat) => [(3, .int .i64 ((ctS c.l en.m (n1.m + c.o) (ys ++ [(⟨en.m, en.m⟩ : Fre)]) k).a)), (45, .int .i64 (k : Int))]) (fun k w => Blk w bk2 52 [.int .i64 (n1.m + c.o), .int .i64 ((ctS c.l en.m (n1.m + c.o) (ys ++ [(⟨en.m, en.m⟩ : Fre)]) k).u), .int .i64 0, .int .i64 0] ∧ (k ≤ ys.length + 1) ∧ (0 ≤ (ctS c.l en.m (n1.m + c.o) (ys ++ [(⟨en.m, en.m⟩ : Fre)]) k).u ∧ (ctS c.l en.m (n1.m + c.o) (ys ++ [(⟨en.m, en.m⟩ : Fre)]) k).u ≤ c.l) ∧ (0 ≤ (ctS c.l en.m (n1.m + c.o) (ys ++ [(⟨en.m, en.m⟩ : Fre)]) k).a ∧ (ctS c.l en.m (n1.m + c.o) (ys ++ [(⟨en.m, en.m⟩ : Fre)]) k).a ≤ 200000)) (fun k => ys.length + 1 - k) 0 ⟨B45, (Nat.zero_le _), (by show (0 : Int) ≤ 0 ∧ (0 : Int) ≤ c.l; omega), (by show 0 ≤ n1.m + c.o ∧ n1.m + c.o ≤ 200000; omega)⟩ ?_
 rintro k w47 ⟨I49, hk, hu9, ha9⟩ u48 zu48 K46 hK46
 refine go ?_
 refine q_p (fun g46 => ?_) fun g46 => ?_
 ·
  have hfk := hfsb _ (nth_mem (xs := (ys ++ [(⟨en.m, en.m⟩ : Fre)])) (i := k) (by omega))
  refine go ?_
  have D55 := (A42.keep u48 (fun _hb => show ¬ (gF = bk2) by first | omega | assumption))
  refine g_i k (D55.sl (fun _ => rfl)) (fun _ => ?_)
  refine go ?_
  refine x_n fun bk57 w58 ebk57 sbk57 B59 u60 => ?_
  refine x_s fun w62 sw62 B64 u63 => ?_
  refine go ?_
  refine c_drawnM follows (fun _ => False) (OTl [0, 2, 4, 6, 8, 10, 12, 14]) (by kernel_rfl) fun w68 u69 => ?_
  have zu69 := u69.size
  refine go ?_
  refine q_p (fun g56 => ?_) fun g56 => ?_
  ·
   have hfin : (ctS c.l en.m (n1.m + c.o) (ys ++ [(⟨en.m, en.m⟩ : Fre)]) (ys.length + 1)) = (ctS c.l en.m (n1.m + c.o) (ys ++ [(⟨en.m, en.m⟩ : Fre)]) k) := by have := ctS_stop g56 (ys.length + 1 - k); rwa [show k + (ys.length + 1 - k) = ys.length + 1 by omega] at this
   refine go ?_
   refine c_drawnM follows (fun _ => False) (OTl [0, 2, 4, 6, 8, 10, 12, 14]) (by kernel_rfl) fun w73 u74 => ?_
   have zu74 := u74.size
   refine go ?_
   refine q_p (fun g104 => ?_) fun g104 => ?_
   ·
    refine go ?_
    refine t_max rfl rfl rfl rfl ?_
    refine go ?_
    refine x_s fun w76 sw76 B78 u77 => ?_
    refine go ?_
    refine q_p (fun g112 => ?_) fun g112 => ?_
    ·
     refine c_drawnM follows (fun i => i = bk2) (OTl [0, 2, 4, 6, 8, 10, 13, 14, 16, 19]) (by kernel_rfl) fun w82 u83 => ?_
     have zu83 := u83.size
     refine go ?_
     refine x_s fun w85 sw85 B87 u86 => ?_
     refine go ?_
     refine x_s fun w90 sw90 B92 u91 => ?_
     refine go ?_
     refine f_ret1 (v := .agg #[.int .i64 (n1.m + c.o), .int .i64 ((ctS c.l en.m (n1.m + c.o) (ys ++ [(⟨en.m, en.m⟩ : Fre)]) k).u), .int .i64 (max 0 (en.m - ((ctS c.l en.m (n1.m + c.o) (ys ++ [(⟨en.m, en.m⟩ : Fre)]) k).a))), .int .i64 (c.l - ((ctS c.l en.m (n1.m + c.o) (ys ++ [(⟨en.m, en.m⟩ : Fre)]) k).u))]) results39 ⟨_, _, rfl, run_loadVarN (vs := [.int .i64 (n1.m + c.o), .int .i64 ((ctS c.l en.m (n1.m + c.o) (ys ++ [(⟨en.m, en.m⟩ : Fre)]) k).u), .int .i64 (max 0 (en.m - ((ctS c.l en.m (n1.m + c.o) (ys ++ [(⟨en.m, en.m⟩ : Fre)]) k).a))), .int .i64 (c.l - ((ctS c.l en.m (n1.m + c.o) (ys ++ [(⟨en.m, en.m⟩ : Fre)]) k).u))]) isAgg52 sizeOf52 rfl (B92.at.sub 0 4)⟩ (⟨⟨ys, hyp, hya, ?_⟩, u_d⟩)
     simp only [cntP, hfin]
     first | rfl | (simp_all [encLc]; done)
    refine go ?_
    refine x_s fun w95 sw95 B97 u96 => ?_
    refine go ?_
    refine f_ret1 (v := .agg #[.int .i64 (n1.m + c.o), .int .i64 ((ctS c.l en.m (n1.m + c.o) (ys ++ [(⟨en.m, en.m⟩ : Fre)]) k).u), .int .i64 (max 0 (en.m - ((ctS c.l en.m (n1.m + c.o) (ys ++ [(⟨en.m, en.m⟩ : Fre)]) k).a))), .int .i64 0]) results39 ⟨_, _, rfl, run_loadVarN (vs := [.int .i64 (n1.m + c.o), .int .i64 ((ctS c.l en.m (n1.m + c.o) (ys ++ [(⟨en.m, en.m⟩ : Fre)]) k).u), .int .i64 (max 0 (en.m - ((ctS c.l en.m (n1.m + c.o) (ys ++ [(⟨en.m, en.m⟩ : Fre)]) k).a))), .int .i64 0]) isAgg52 sizeOf52 rfl (B97.at.sub 0 4)⟩ (⟨⟨ys, hyp, hya, ?_⟩, u_d⟩)
    simp only [cntP, hfin]
    first | rfl | (simp_all [encLc]; done)
   refine go ?_
   refine c_drawnM follows (fun i => i = bk2) (OTl [0, 2, 4, 6, 8, 10, 13, 14, 16, 19]) (by kernel_rfl) fun w101 u102 => ?_
   have zu102 := u102.size
   refine go ?_
   refine x_s fun w104 sw104 B106 u105 => ?_
   refine go ?_
   refine x_s fun w109 sw109 B111 u110 => ?_
   refine go ?_
   refine f_ret1 (v := .agg #[.int .i64 (n1.m + c.o), .int .i64 ((ctS c.l en.m (n1.m + c.o) (ys ++ [(⟨en.m, en.m⟩ : Fre)]) k).u), .int .i64 0, .int .i64 (c.l - ((ctS c.l en.m (n1.m + c.o) (ys ++ [(⟨en.m, en.m⟩ : Fre)]) k).u))]) results39 ⟨_, _, rfl, run_loadVarN (vs := [.int .i64 (n1.m + c.o), .int .i64 ((ctS c.l en.m (n1.m + c.o) (ys ++ [(⟨en.m, en.m⟩ : Fre)]) k).u), .int .i64 0, .int .i64 (c.l - ((ctS c.l en.m (n1.m + c.o) (ys ++ [(⟨en.m, en.m⟩ : Fre)]) k).u))]) isAgg52 sizeOf52 rfl (B111.at.sub 0 4)⟩ (⟨⟨ys, hyp, hya, ?_⟩, u_d⟩)
   simp only [cntP, hfin]
   first | rfl | (simp_all; done)
  have hus := ctUse_rng (en := en.m) (f := nth (ys ++ [(⟨en.m, en.m⟩ : Fre)]) k) hu9.2 hfk.1 ha9
  have hS9 : (ctS c.l en.m (n1.m + c.o) (ys ++ [(⟨en.m, en.m⟩ : Fre)]) (k + 1)) = ctStep c.l en.m (ctS c.l en.m (n1.m + c.o) (ys ++ [(⟨en.m, en.m⟩ : Fre)]) k) (nth (ys ++ [(⟨en.m, en.m⟩ : Fre)]) k) := rfl
  have hU9 : (ctS c.l en.m (n1.m + c.o) (ys ++ [(⟨en.m, en.m⟩ : Fre)]) (k + 1)).u = (ctS c.l en.m (n1.m + c.o) (ys ++ [(⟨en.m, en.m⟩ : Fre)]) k).u + (ctUse c.l en.m (ctS c.l en.m (n1.m + c.o) (ys ++ [(⟨en.m, en.m⟩ : Fre)]) k) (nth (ys ++ [(⟨en.m, en.m⟩ : Fre)]) k)) := by rw [hS9, ctStep, if_neg g56]
  have hA9 : (ctS c.l en.m (n1.m + c.o) (ys ++ [(⟨en.m, en.m⟩ : Fre)]) (k + 1)).a = if (ctS c.l en.m (n1.m + c.o) (ys ++ [(⟨en.m, en.m⟩ : Fre)]) k).u + (ctUse c.l en.m (ctS c.l en.m (n1.m + c.o) (ys ++ [(⟨en.m, en.m⟩ : Fre)]) k) (nth (ys ++ [(⟨en.m, en.m⟩ : Fre)]) k)) < c.l then max ((ctS c.l en.m (n1.m + c.o) (ys ++ [(⟨en.m, en.m⟩ : Fre)]) k).a + (ctUse c.l en.m (ctS c.l en.m (n1.m + c.o) (ys ++ [(⟨en.m, en.m⟩ : Fre)]) k) (nth (ys ++ [(⟨en.m, en.m⟩ : Fre)]) k))) (min (nth (ys ++ [(⟨en.m, en.m⟩ : Fre)]) k).t en.m) else (ctS c.l en.m (n1.m + c.o) (ys ++ [(⟨en.m, en.m⟩ : Fre)]) k).a + (ctUse c.l en.m (ctS c.l en.m (n1.m + c.o) (ys ++ [(⟨en.m, en.m⟩ : Fre)]) k) (nth (ys ++ [(⟨en.m, en.m⟩ : Fre)]) k)) := by rw [hS9, ctStep, if_neg g56]
  refine go ?_
  refine t_min rfl rfl rfl rfl ?_
  refine go ?_
  refine t_max rfl rfl rfl rfl ?_
  refine go ?_
  refine c_drawnM follows (fun _ => False) (OTl [0, 2, 4, 6, 8, 10, 12, 14, 16, 18, 20]) (by kernel_rfl) fun w115 u116 => ?_
  have zu116 := u116.size
  refine go ?_
  refine y_min rfl rfl rfl rfl (y_same 73 (v := .int .i64 (ctUse c.l en.m (ctS c.l en.m (n1.m + c.o) (ys ++ [(⟨en.m, en.m⟩ : Fre)]) k) (nth (ys ++ [(⟨en.m, en.m⟩ : Fre)]) k))) rfl (by unfold ctUse; rfl) ?_)
  refine go ?_
  refine x_s fun w119 sw119 B121 u120 => ?_
  refine go ?_
  refine c_drawnM follows (fun _ => False) (OTl [0, 2, 4, 6, 8, 10, 12, 14]) (by kernel_rfl) fun w125 u126 => ?_
  have zu126 := u126.size
  refine go ?_
  refine q_p (fun g89 => ?_) fun g89 => ?_
  ·
   refine go ?_
   refine t_min rfl rfl rfl rfl (t_max rfl rfl rfl rfl ?_)
   refine go ?_
   have B128 := (B121.kx u126)
   exact hK46 (k + 1) ⟨(by first | (rw [hU9]; exact B128) | exact B128), (by omega), (by rw [hU9]; omega), (by rw [hA9]; split <;> omega)⟩ (hs := by exact ⟨(congrArg (fun z => some (Value.int .i64 z)) (by first | rw [hA9, if_pos g89] | rw [hA9, if_neg g89])), rfl, rfl, rfl, rfl, rfl, rfl, trivial⟩)
  refine go ?_
  have B129 := (B121.kx u126)
  exact hK46 (k + 1) ⟨(by first | (rw [hU9]; exact B129) | exact B129), (by omega), (by rw [hU9]; omega), (by rw [hA9]; split <;> omega)⟩ (hs := by exact ⟨(congrArg (fun z => some (Value.int .i64 z)) (by first | rw [hA9, if_pos g89] | rw [hA9, if_neg g89])), rfl, rfl, rfl, rfl, rfl, rfl, trivial⟩)
 have hfin : (ctS c.l en.m (n1.m + c.o) (ys ++ [(⟨en.m, en.m⟩ : Fre)]) (ys.length + 1)) = (ctS c.l en.m (n1.m + c.o) (ys ++ [(⟨en.m, en.m⟩ : Fre)]) k) := by rw [show k = ys.length + 1 by omega]
 refine go ?_
 refine c_drawnM follows (fun _ => False) (OTl [0, 2, 4, 6, 8, 10, 12, 14]) (by kernel_rfl) fun w132 u133 => ?_
 have zu133 := u133.size
 refine go ?_
 refine q_p (fun g104 => ?_) fun g104 => ?_
 ·
  refine go ?_
  refine t_max rfl rfl rfl rfl ?_
  refine go ?_
  refine x_s fun w135 sw135 B137 u136 => ?_
  refine go ?_
  refine q_p (fun g112 => ?_) fun g112 => ?_
  ·
   refine c_drawnM follows (fun i => i = bk2) (OTl [0, 2, 4, 6, 8, 10, 13, 14, 16, 19]) (by kernel_rfl) fun w141 u142 => ?_
   have zu142 := u142.size
   refine go ?_
   refine x_s fun w144 sw144 B146 u145 => ?_
   refine go ?_
   refine x_s fun w149 sw149 B151 u150 => ?_
   refine go ?_
   refine f_ret1 (v := .agg #[.int .i64 (n1.m + c.o), .int .i64 ((ctS c.l en.m (n1.m + c.o) (ys ++ [(⟨en.m, en.m⟩ : Fre)]) k).u), .int .i64 (max 0 (en.m - ((ctS c.l en.m (n1.m + c.o) (ys ++ [(⟨en.m, en.m⟩ : Fre)]) k).a))), .int .i64 (c.l - ((ctS c.l en.m (n1.m + c.o) (ys ++ [(⟨en.m, en.m⟩ : Fre)]) k).u))]) results39 ⟨_, _, rfl, run_loadVarN (vs := [.int .i64 (n1.m + c.o), .int .i64 ((ctS c.l en.m (n1.m + c.o) (ys ++ [(⟨en.m, en.m⟩ : Fre)]) k).u), .int .i64 (max 0 (en.m - ((ctS c.l en.m (n1.m + c.o) (ys ++ [(⟨en.m, en.m⟩ : Fre)]) k).a))), .int .i64 (c.l - ((ctS c.l en.m (n1.m + c.o) (ys ++ [(⟨en.m, en.m⟩ : Fre)]) k).u))]) isAgg52 sizeOf52 rfl (B151.at.sub 0 4)⟩ (⟨⟨ys, hyp, hya, ?_⟩, u_d⟩)
   simp only [cntP, hfin]
   first | rfl | (simp_all [encLc]; done)
  refine go ?_
  refine x_s fun w154 sw154 B156 u155 => ?_
  refine go ?_
  refine f_ret1 (v := .agg #[.int .i64 (n1.m + c.o), .int .i64 ((ctS c.l en.m (n1.m + c.o) (ys ++ [(⟨en.m, en.m⟩ : Fre)]) k).u), .int .i64 (max 0 (en.m - ((ctS c.l en.m (n1.m + c.o) (ys ++ [(⟨en.m, en.m⟩ : Fre)]) k).a))), .int .i64 0]) results39 ⟨_, _, rfl, run_loadVarN (vs := [.int .i64 (n1.m + c.o), .int .i64 ((ctS c.l en.m (n1.m + c.o) (ys ++ [(⟨en.m, en.m⟩ : Fre)]) k).u), .int .i64 (max 0 (en.m - ((ctS c.l en.m (n1.m + c.o) (ys ++ [(⟨en.m, en.m⟩ : Fre)]) k).a))), .int .i64 0]) isAgg52 sizeOf52 rfl (B156.at.sub 0 4)⟩ (⟨⟨ys, hyp, hya, ?_⟩, u_d⟩)
  simp only [cntP, hfin]
  first | rfl | (simp_all [encLc]; done)
 refine go ?_
 refine c_drawnM follows (fun i => i = bk2) (OTl [0, 2, 4, 6, 8, 10, 13, 14, 16, 19]) (by kernel_rfl) fun w160 u161 => ?_
 have zu161 := u161.size
 refine go ?_
 refine x_s fun w163 sw163 B165 u164 => ?_
 refine go ?_
 refine x_s fun w168 sw168 B170 u169 => ?_
 refine go ?_
 refine f_ret1 (v := .agg #[.int .i64 (n1.m + c.o), .int .i64 ((ctS c.l en.m (n1.m + c.o) (ys ++ [(⟨en.m, en.m⟩ : Fre)]) k).u), .int .i64 0, .int .i64 (c.l - ((ctS c.l en.m (n1.m + c.o) (ys ++ [(⟨en.m, en.m⟩ : Fre)]) k).u))]) results39 ⟨_, _, rfl, run_loadVarN (vs := [.int .i64 (n1.m + c.o), .int .i64 ((ctS c.l en.m (n1.m + c.o) (ys ++ [(⟨en.m, en.m⟩ : Fre)]) k).u), .int .i64 0, .int .i64 (c.l - ((ctS c.l en.m (n1.m + c.o) (ys ++ [(⟨en.m, en.m⟩ : Fre)]) k).u))]) isAgg52 sizeOf52 rfl (B170.at.sub 0 4)⟩ (⟨⟨ys, hyp, hya, ?_⟩, u_d⟩)
 simp only [cntP, hfin]
 first | rfl | (simp_all [encLc]; done)

end Go.Proofs.YtclinbbghnebaaaGreat
namespace Go.Proofs.YtclinbbghnebaaaGreat
open Go Go.RowKit Go.Proofs.Tryz
set_option maxRecDepth 10000

abbrev FrBd (x : Fre) : Prop := (0 ≤ x.f ∧ x.f ≤ 100000) ∧ (0 ≤ x.t ∧ x.t ≤ 100000)
theorem chkFr_bd {l : List Fre} (h : chkFr l = 0) : ∀ x ∈ l, FrBd x := fun x hx => by
  unfold chkFr at h
  split at h
  · omega
  · split at h
    · omega
    · rename_i _ h2
      cases hb : okFre x
      · exact absurd (List.any_eq_true.2 ⟨x, hx, by simp [hb]⟩) h2
      · unfold okFre at hb
        rw [decide_eq_true_eq] at hb
        exact hb.1
theorem opS_bd {en : Int} {fr : List Fre} {l : List Msg} (hfr : ∀ x ∈ fr, FrBd x) (hl : ∀ x ∈ l, okMsg x = true) (hen : 0 ≤ en ∧ en ≤ 100000) : ∀ k, k ≤ l.length → (∀ x ∈ (opS en fr l k).ex, FrBd x) ∧ (opS en fr l k).ex.length ≤ fr.length + k
  | 0, _ => ⟨hfr, Nat.le_refl _⟩
  | k + 1, hk => by
    obtain ⟨h1, h2⟩ := opS_bd hfr hl hen k (by omega)
    have hm := okMsg_k (hl _ (nth_mem (xs := l) (i := k) (by omega)))
    unfold opS
    split
    · exact ⟨h1, by omega⟩
    · simp only [opEx]
      split
      · refine ⟨fun x hx => ?_, by rw [List.length_append, List.length_singleton]; omega⟩
        rcases List.mem_append.1 hx with hx | hx
        · exact h1 x hx
        · rw [List.mem_singleton.1 hx]; exact ⟨hm.2, by show 0 ≤ max _ _ ∧ max _ _ ≤ _; omega⟩
      · split
        · refine ⟨fun x hx => ?_, by rw [List.length_set]; omega⟩
          obtain ⟨i, hi, e⟩ := List.mem_iff_getElem.1 hx
          rw [List.length_set] at hi
          rw [List.getElem_set] at e
          split at e
          · rename_i q
            have h9 := h1 _ (nth_mem (xs := (opS en fr l k).ex) (i := (opS en fr l k).ex.length - 1) (by omega))
            rw [← e]; exact ⟨h9.1, hm.2⟩
          · rw [← e]; exact h1 _ (List.getElem_mem hi)
        · exact ⟨h1, by omega⟩
theorem fG_mem {α β : Type} [DecidableEq α] : ∀ (m : List (α × β)) (a : α) (i : Nat) {j : Nat} {v : β}, fG m a i = some (j, v) → (a, v) ∈ m := fun m a i j v h => by
  have := (fG_at m a i h).2
  exact List.mem_of_getElem? this
theorem gtG_mem {α β : Type} [DecidableEq α] {m : List (α × β)} {a : α} {v : β} (h : gtG m a = some v) : (a, v) ∈ m := by
  unfold gtG at h
  cases hf : fG m a 0 with
  | none => rw [hf] at h; cases h
  | some p =>
    rw [hf] at h
    simp only [Option.map_some, Option.some.injEq] at h
    subst h
    exact fG_mem m a 0 hf
theorem onS_mem {l : List Msg} : ∀ {k : Nat} {p : Int × Msg}, k ≤ l.length → p ∈ onS l k → p.2 ∈ l
  | 0, _, _, h => by cases h
  | k + 1, p, hk, h => by
    unfold onS at h
    split at h
    · exact onS_mem (by omega) h
    · rcases upG_mem h with h | h
      · exact onS_mem (by omega) h
      · rw [h]; exact nth_mem (by omega)
theorem okCh_rng {c : Chr} {ws : List Low} (h : chkCh c ws = 0) : ws.length ≤ 10 ∧ ((0 ≤ c.s ∧ c.s ≤ 99) ∧ (0 ≤ c.c ∧ c.c ≤ 99) ∧ (0 ≤ c.k ∧ c.k ≤ 99)) ∧ (0 ≤ c.r ∧ c.r ≤ 1000000) ∧ (0 ≤ c.n ∧ c.n ≤ 1000000) ∧ ((0 ≤ c.l ∧ c.l ≤ 100000) ∧ (0 ≤ c.o ∧ c.o ≤ 100000)) ∧ ((0 ≤ c.d ∧ c.d ≤ 100000000) ∧ (0 ≤ c.e ∧ c.e ≤ 100000000)) ∧ (0 ≤ c.m ∧ c.m ≤ 100) := by
  unfold chkCh at h
  split at h
  · rename_i q
    unfold okCh at q
    rw [decide_eq_true_eq] at q
    exact q.2
  · omega
/-- What a call has, for the count. -/
theorem OpOk.data {fr ex : List Fre} {l out : List Msg} (h : OpOk fr out ex) (hR : RdR l out 0) (hf : chkFr fr = 0) : ∃ n1 en, gtG (onS out out.length) 1 = some n1 ∧ gtG (onS out out.length) 4 = some en ∧ (0 ≤ n1.m ∧ n1.m ≤ 100000) ∧ (0 ≤ en.m ∧ en.m ≤ 100000) ∧ (∀ x ∈ ex, FrBd x) ∧ ex.length ≤ 1000 := by
  obtain ⟨_, n1, en, h1, h4, _, rfl⟩ := h
  obtain ⟨q1, q2, q3⟩ := hR.facts
  obtain ⟨q4, q5⟩ := rdE_ok q3
  have q6 : ∀ x ∈ out, okMsg x = true := fun x hx => q5 x (q1 x hx)
  have q7 : 0 ≤ n1.m ∧ n1.m ≤ 100000 := (okMsg_k (q6 _ (onS_mem (Nat.le_refl _) (gtG_mem h1)))).2
  have q8 : 0 ≤ en.m ∧ en.m ≤ 100000 := (okMsg_k (q6 _ (onS_mem (Nat.le_refl _) (gtG_mem h4)))).2
  have q9 := opS_bd (chkFr_bd hf) q6 q8 out.length (Nat.le_refl _)
  have q10 := chkFr_len hf
  exact ⟨n1, en, h1, h4, q7, q8, q9.1, by omega⟩
/-- What Laytime returns. -/
def LtR (c : Chr) (ws : List Low) (fr : List Fre) (l : List Msg) (lc : Lc) (e : Int) : Prop := (e ≠ 0 ∧ SgE c ws fr l e ∧ lc = ⟨0, 0, 0, 0⟩) ∨ (e = 0 ∧ chkCh c ws = 0 ∧ chkFr fr = 0 ∧ oneC l = true ∧ ∃ out ex n1 en ys, RdR l out 0 ∧ OpOk fr out ex ∧ gtG (onS out out.length) 1 = some n1 ∧ gtG (onS out out.length) 4 = some en ∧ List.Perm ys ex ∧ Asc cmpFr ys ∧ lc = cntP c.l en.m (n1.m + c.o) ys)
/-- The percent of the bonus at a level. -/
def pctP (ws : List Low) (lv : Int) : Int := match ws.find? fun x => decide (lv < x.b) with
  | none => 0
  | some x => x.p
theorem pct_no {ws : List Low} {lv : Int} (h : ∀ j, j < ws.length → decide (lv < (nth ws j).b) = false) : pctP ws lv = 0 := by
  have : ws.find? (fun x => decide (lv < x.b)) = none := List.find?_eq_none.2 fun x hx => by
    obtain ⟨i, hi, rfl⟩ := List.mem_iff_getElem.1 hx
    have := h i hi
    rw [nth_eq hi] at this
    simp [this]
  unfold pctP; rw [this]
theorem pct_yes {ws : List Low} {lv : Int} {k : Nat} (hk : k < ws.length) (h1 : decide (lv < (nth ws k).b) = true) (h : ∀ j, j < k → decide (lv < (nth ws j).b) = false) : pctP ws lv = (nth ws k).p := by
  have : ws.find? (fun x => decide (lv < x.b)) = some (nth ws k) := by
    rw [nth_eq hk] at h1 ⊢
    refine List.find?_eq_some_iff_getElem.2 ⟨h1, k, hk, rfl, fun j hj => ?_⟩
    have := h j hj
    rw [nth_eq (by omega)] at this
    simp [this]
  unfold pctP; rw [this]
theorem percent_c (px : Nat) (c : Chr) (ws : List Low) (aw : Option Addr) (bw ow cw r : Nat) (aE : Option Addr) (nE cE : Nat) (lv : Int) (w0 : World) (hpx : Blk w0 px 224 [.int .i64 c.s, .int .i64 c.c, .int .i64 c.k, .int .i64 c.r, .int .i64 c.n, .int .i64 c.l, .int .i64 c.o, .int .i64 c.d, .int .i64 c.e, .int .i64 c.m, .slice aw ws.length cw, .map (some r), .slice aE nE cE]) (hws : Sl encLow 2 w0 aw bw ow ws) (hwl : ws.length ≤ 1000000) :
    CallsV Tryz.prog 104 [.pointer (some ⟨px, 0, none⟩), .int .i64 lv] w0 (fun v w' => v = .int .i64 (pctP ws lv) ∧ Ext w0 w') := by
 refine f_n func104 ?_
 refine go ?_
 refine x_b fun bk2 w3 ebk2 sbk2 B4 u5 => ?_
 have E6 := Sc.mk ((Upd.refl (fun _ => False) w0).nx u5)
 refine go ?_
 refine t_mkfunc (vs := []) (us := [.pointer (some ⟨bk2, 0, none⟩)]) rfl rfl rfl rfl ?_
 refine x_c func173 rfl rfl (indexWL_c encLow (fun _ => rfl) (fun x => decide (lv < x.b)) 174 [.pointer (some ⟨bk2, 0, none⟩)] ws aw bw ow cw _ own174 (fun x _ w u => percent1_c x lv bk2 w (B4.keep u (fun h => h))) (hws.keep E6.u (fun _ h => h)) hwl) ?_
 rintro _ w9 ⟨⟨n, rfl, hn⟩, u10⟩ zu10
 refine go ?_
 refine q_p (fun g14 => ?_) fun g14 => ?_
 ·
  refine go ?_
  refine f_1 results104 ?_
  have hq := (hn.resolve_right (fun ⟨k, e, _⟩ => by omega)).2
  exact ⟨by rw [pct_no hq], u_d⟩
 obtain ⟨k0, rfl, hk0, hpk, hno⟩ := hn.resolve_left (fun h => by omega)
 refine go ?_
 refine g_i k0 (hws.keep (E6.u.nx u10) (fun _ h => h)) (fun _ => ?_)
 refine go ?_
 refine f_1 results104 ?_
 exact ⟨by rw [pct_yes hk0 hpk hno], u_d⟩

end Go.Proofs.YtclinbbghnebaaaGreat
