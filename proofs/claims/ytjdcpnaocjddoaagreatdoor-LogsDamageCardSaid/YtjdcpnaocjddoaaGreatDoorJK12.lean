/-
  Part 12 of the proof: contracts and plain laws. Conditions: none.
-/
import Derived.Shelf.Strings.OnBuilder
import Derived.Shelf.Strconv.Itoa3
import Derived.Ground.NamesProg
import Derived.Test.YtjdcpnaocjddoaaGreatDoorProg
import Derived.Lib.ItoaLen
import Derived.Lib.Join
import Derived.Test.YtjdcpnaocjddoaaGreatDoorJK11
namespace Go.Proofs.YtjdcpnaocjddoaaGreatDoor
open Go Go.RowKit Go.Proofs.Tryz
def runP (S : Sea) (i : Nat) : List Ent → Int × Nat × Sea
  | [] => (0, 0, S)
  | x :: l => if (stepP S x).1 = 0 then runP { (stepP S x).2 with m := x.m } (i + 1) l else ((stepP S x).1, i, S)
def zSea : Sea := ⟨0, 0, [], [], []⟩
def SG0 : SG := ⟨0, [], none, 0, 0, [], none, 0, 0, [], none, 0, 0, 0⟩
/-- what Replay answers -/
def repP (S : Sea) (l : List Ent) : Int × Nat × Sea := if 2000 < l.length then (5, 0, zSea) else if (runP S 0 l).1 = 0 then (0, 0, (runP S 0 l).2.2) else ((runP S 0 l).1, (runP S 0 l).2.1, zSea)
theorem sl_nil {α : Type} [Inhabited α] {enc : α → List Value} {k : Nat} {w : World} (_h : 0 < w.heap.size) : Sl enc k w none 0 0 [] := ⟨fun hp => absurd hp (Nat.lt_irrefl _), fun hp => absurd hp (Nat.lt_irrefl _), fun _i hi => absurd hi (Nat.not_lt_zero _)⟩
theorem SIn.zero {w : World} (h : 0 < w.heap.size) : SIn w SG0 0 0 0 := ⟨sl_nil h, fun r hr => (by cases hr), sl_nil h, sl_nil h⟩
def SG.num (V : SG) (m wk : Int) : SG := { V with m := m, wk := wk }
theorem SeaM.low {base sb : Nat} {w w' : World} {V : SG} {S : Nat → Prop} (h : SeaM base sb w V) (u : Upd S w w') (hS : ∀ i, S i → i < base) : SeaM base sb w' V :=
  ⟨h.sge, h.blk.keep u (fun hs => by have := hS _ hs; have := h.sge; omega), h.hacc.keep u (fun hb hs => by have := hS _ hs; omega), fun r hr => ⟨(h.cacc r hr).1, (h.cacc r hr).2.keep u (fun hb hs => by have := hS _ hs; omega)⟩, h.lacc.keep u (fun hb hs => by have := hS _ hs; omega), h.uacc.keep u (fun hb hs => by have := hS _ hs; omega), h.lu, h.lr, h.rr⟩
theorem runP_ok {S : Sea} {i : Nat} {x : Ent} {l : List Ent} (h : (stepP S x).1 = 0) : runP S i (x :: l) = runP { (stepP S x).2 with m := x.m } (i + 1) l := by
  show (if (stepP S x).1 = 0 then _ else _) = _
  rw [if_pos h]
/-- All blocks of a state lie from b on, where there is something in them. -/
structure SeaF (b : Nat) (V : SG) : Prop where
  h : 0 < V.rs.length → b ≤ V.gh
  c : ∀ r ∈ V.rs, 0 < r.c.length → b ≤ r.g
  l : 0 < V.ld.length → b ≤ V.gl
  u : 0 < V.un.length → b ≤ V.gu
theorem SeaF.zero (b : Nat) : SeaF b SG0 := ⟨fun h => absurd h (Nat.lt_irrefl 0), fun r hr => (by cases hr), fun h => absurd h (Nat.lt_irrefl 0), fun h => absurd h (Nat.lt_irrefl 0)⟩
theorem SeaF.mono {b b' : Nat} {V : SG} (h : SeaF b V) (hb : b' ≤ b) : SeaF b' V := ⟨fun hp => by have := h.h hp; omega, fun r hr hp => by have := h.c r hr hp; omega, fun hp => by have := h.l hp; omega, fun hp => by have := h.u hp; omega⟩
theorem SeaM.seaF {base sb : Nat} {w : World} {V : SG} (h : SeaM base sb w V) : SeaF base V := ⟨fun hp => h.hacc.ge hp, fun r hr hp => (h.cacc r hr).2.ge hp, fun hp => h.lacc.ge hp, fun hp => h.uacc.ge hp⟩
set_option maxHeartbeats 4000000 in
theorem Replay_c (l : List Ent) (al : Option Addr) (bl ol cl : Nat) (V : SG) (oh o1 o2 : Nat) (T : Int) (w0 : World) (hl : Sl encEnt 6 w0 al bl ol l) (hll : l.length ≤ 1000000000) (hpos : 0 < w0.heap.size) (hI : SIn w0 V oh o1 o2) (hok : SeaOk T V.st) (hT : T ≤ 500000000) :
    CallsV Tryz.prog 20 [.agg #[.int .i64 V.m, .slice V.ah V.rs.length V.ch, .slice V.al V.ld.length V.cl, .slice V.au V.un.length V.cu, .int .i64 V.wk], .slice al l.length cl] w0 (fun v w' => (∃ V9, v = .tuple #[.agg V9.cells.toArray, .int .i64 ((repP V.st l).2.1 : Int), .int .i64 (repP V.st l).1] ∧ SIn w' V9 0 0 0 ∧ V9.st = (repP V.st l).2.2 ∧ SeaF w0.heap.size V9) ∧ Ext w0 w') := by
 have hT0 := hok.t
 refine f_n func20 ?_
 refine go ?_
 refine x_b fun bk2 w3 ebk2 sbk2 B4 u5 => ?_
 refine x_n fun bk7 w8 ebk7 sbk7 B9 u10 => ?_
 have E11 := Sc.mk (((Upd.refl (fun _ => False) w0).nx u5).nx u10)
 refine go ?_
 refine q_p (fun g13 => ?_) fun g13 => ?_
 ·
  refine go ?_
  refine x_s fun w15 sw15 B17 u16 => ?_
  refine go ?_
  refine f_ret3 (v1 := .agg #[.int .i64 0, .slice none 0 0, .slice none 0 0, .slice none 0 0, .int .i64 0]) (v2 := .int .i64 0) (v3 := .int .i64 5) results20 ⟨_, _, rfl, run_loadVarN (vs := [.int .i64 0, .slice none 0 0, .slice none 0 0, .slice none 0 0, .int .i64 0]) isAgg37 sizeOf37 rfl (B17.at.sub 0 5)⟩ rfl rfl ?_
  have he : repP V.st l = (5, 0, zSea) := by unfold repP; rw [if_pos (by omega)]
  rw [he]
  exact ⟨⟨SG0, rfl, (SIn.zero (by omega)), rfl, SeaF.zero _⟩, u_d⟩
 refine go ?_
 refine x_c func56 rfl rfl (own_c V oh o1 o2 _ (hI.ext E11.u) (by omega) hok.rlen hok.ld.len hok.un.len (fun r hr => (hok.rhul r hr).2.2.1.len)) ?_
 rintro _ w21 ⟨⟨sb, V1, rfl, hM, hst⟩, u22⟩ zu22
 have hsge := hM.sge
 have hsb := hM.blk.lt
 refine go ?_
 refine x_l2 (fun i => w8.heap.size ≤ i) [4, 7, 17, 18] (fun (j : Nat) (Vj : SG) => [(19, .int .i64 (j : Int))]) (fun j Vj w => (j ≤ l.length) ∧ (SeaM w8.heap.size sb w Vj) ∧ (runP V.st 0 l = runP Vj.st j (l.drop j)) ∧ (SeaOk (T + 100000 * (j : Int)) Vj.st)) (fun j Vj => l.length - j) 0 V1 ⟨(Nat.zero_le _), hM, (by rw [hst]; rfl), (by rw [hst]; simpa using hok)⟩ ?_
 rintro j Vj w28 ⟨hj, hMj, hrun, hoj⟩ u29 zu29 K27 hK27
 have hBj : Blk w28 sb 112 [.int .i64 Vj.m, .slice Vj.ah Vj.rs.length Vj.ch, .slice Vj.al Vj.ld.length Vj.cl, .slice Vj.au Vj.un.length Vj.cu, .int .i64 Vj.wk] := hMj.blk
 refine go ?_
 refine q_p (fun g20 => ?_) fun g20 => ?_
 ·
  refine go ?_
  refine g_i j (hl.keep ((E11.u.nx u22).next u29 (fun i hi h => by omega)) (fun _ h => h)) (fun _ => ?_)
  refine go ?_
  refine x_n fun bk36 w37 ebk36 sbk36 B38 u39 => ?_
  refine go ?_
  refine x_s fun w41 sw41 B43 u42 => ?_
  refine go ?_
  refine x_c func57 rfl rfl (step0_c w8.heap.size sb w28.heap.size Vj (T + 100000 * j) (nth l j) _ _ _ (hMj.ext (((Upd.refl (fun _ => False) _).nx u39).next u42 (fun i hi (h : i = bk36) => show False by first | omega | assumption))) hoj hMj.lts (by omega) (by omega) (by omega) rfl rfl) ?_
  rintro _ w48 ⟨⟨V2, rfl, hM2, hst2⟩, u49⟩ zu49
  have hB9 : Blk w48 sb 112 [.int .i64 V2.m, .slice V2.ah V2.rs.length V2.ch, .slice V2.al V2.ld.length V2.cl, .slice V2.au V2.un.length V2.cu, .int .i64 V2.wk] := hM2.blk
  refine go ?_
  refine q_p (fun g28 => ?_) fun g28 => ?_
  ·
   refine go ?_
   refine x_s fun w54 sw54 B56 u55 => ?_
   refine go ?_
   refine f_ret3 (v1 := .agg #[.int .i64 0, .slice none 0 0, .slice none 0 0, .slice none 0 0, .int .i64 0]) (v2 := .int .i64 (j : Int)) (v3 := .int .i64 ((stepP Vj.st (nth l j)).1)) results20 ⟨_, _, rfl, run_loadVarN (vs := [.int .i64 0, .slice none 0 0, .slice none 0 0, .slice none 0 0, .int .i64 0]) isAgg37 sizeOf37 rfl (B56.at.sub 0 5)⟩ rfl rfl ?_
   have hl9 : ¬ 2000 < l.length := by omega
   have hR : runP V.st 0 l = ((stepP Vj.st (nth l j)).1, j, Vj.st) := by rw [hrun, drop_nth (by omega)]; unfold runP; rw [if_neg (by omega)]
   have he : repP V.st l = ((stepP Vj.st (nth l j)).1, j, zSea) := by unfold repP; rw [if_neg hl9, hR, if_neg (by show ¬ (stepP Vj.st (nth l j)).1 = 0; omega)]
   rw [he]
   exact ⟨⟨SG0, rfl, (SIn.zero (by omega)), rfl, SeaF.zero _⟩, u_d⟩
  refine go ?_
  have hM58 := hM2
  refine x_s fun w59 sw59 B61 u60 => ?_
  have hM3 : SeaM w8.heap.size sb w59 (SG.num V2 (nth l j).m V2.wk) := hM58.setB u60 B61
  refine go ?_
  exact hK27 (j + 1) (SG.num V2 (nth l j).m V2.wk) ⟨(by omega), hM3, (by rw [hrun, drop_nth (by omega)]; rw [runP_ok (by omega), ← hst2]; rfl), (by have h9 := SeaOk.step hoj (by omega) (show (stepP Vj.st (nth l j)).1 = 0 by omega); rw [← hst2] at h9; rw [show T + 100000 * ((j + 1 : Nat) : Int) = T + 100000 * (j : Int) + 100000 by omega]; exact h9)⟩
 refine go ?_
 refine x_s fun w64 sw64 B66 u65 => ?_
 refine go ?_
 refine f_ret3 (v1 := .agg #[.int .i64 Vj.m, .slice Vj.ah Vj.rs.length Vj.ch, .slice Vj.al Vj.ld.length Vj.cl, .slice Vj.au Vj.un.length Vj.cu, .int .i64 Vj.wk]) (v2 := .int .i64 0) (v3 := .int .i64 0) results20 ⟨_, _, rfl, run_loadVarN (vs := [.int .i64 Vj.m, .slice Vj.ah Vj.rs.length Vj.ch, .slice Vj.al Vj.ld.length Vj.cl, .slice Vj.au Vj.un.length Vj.cu, .int .i64 Vj.wk]) isAgg37 sizeOf37 rfl (B66.at.sub 0 5)⟩ rfl rfl ?_
 have hl9 : ¬ 2000 < l.length := by omega
 have hR : runP V.st 0 l = (0, 0, Vj.st) := by rw [hrun, List.drop_of_length_le (by omega)]; rfl
 have he : repP V.st l = (0, 0, Vj.st) := by unfold repP; rw [if_neg hl9, hR, if_pos rfl]
 rw [he]
 exact ⟨⟨Vj, rfl, ((hMj.low u65 (fun i h => by omega))).sin, rfl, hMj.seaF.mono (by omega)⟩, u_d⟩

end Go.Proofs.YtjdcpnaocjddoaaGreatDoor
namespace Go.Proofs.YtjdcpnaocjddoaaGreatDoor
open Go Go.RowKit
/-! ### seasons: what is loaded is aboard or unloaded -/
def allT (b : Int) : List Hul → Int
  | [] => 0
  | h :: r => tonP b h.c + allT b r
theorem allT_app (b : Int) : ∀ l m : List Hul, allT b (l ++ m) = allT b l + allT b m
  | [], m => by simp [allT]
  | x :: l, m => by simp only [List.cons_append, allT, allT_app b l m]; omega
theorem allT_ins (b : Int) (l : List Hul) (k : Nat) (q : Hul) : allT b (l.take k ++ q :: l.drop k) = allT b l + tonP b q.c := by
  have e : allT b l = allT b (l.take k) + allT b (l.drop k) := by rw [← allT_app, List.take_append_drop]
  rw [allT_app, e]; simp only [allT]; omega
theorem allT_set (b : Int) (q : Hul) : ∀ {l : List Hul} {k : Nat}, k < l.length → allT b (l.set k q) = allT b l - tonP b (nth l k).c + tonP b q.c
  | x :: l, 0, _ => by
    have e : nth (x :: l) 0 = x := rfl
    rw [e, List.set_cons_zero]; simp only [allT]; omega
  | x :: l, k + 1, h => by
    have e : nth (x :: l) (k + 1) = nth l k := rfl
    rw [e, List.set_cons_succ]; simp only [allT]
    rw [allT_set b q (l := l) (k := k) (by simpa using h)]; omega
/-- What was loaded of a bill is aboard, or was unloaded. -/
def Bal (S : Sea) : Prop := ∀ b : Int, allT b S.hs + tonP b S.un = tonP b S.ld
theorem Bal.zero : Bal zSea := fun _ => rfl
theorem Bal.step {S : Sea} {x : Ent} (h : Bal S) (he : (stepP S x).1 = 0) : Bal { (stepP S x).2 with m := x.m } := by
  intro b
  have hb := h b
  unfold stepP at he ⊢
  by_cases e1 : okEnt x = false
  · rw [if_pos e1] at he; simp at he
  rw [if_neg e1] at he ⊢
  by_cases e2 : x.m < S.m
  · rw [if_pos e2] at he; simp at he
  rw [if_neg e2] at he ⊢
  by_cases e3 : x.k = 1
  · rw [if_pos e3] at he ⊢
    unfold buildP at he ⊢
    by_cases e4 : isK (fun h : Hul => h.n) x.h S.hs = true
    · rw [if_pos e4] at he; simp at he
    rw [if_neg e4]
    show allT b (S.hs.take _ ++ (⟨x.h, x.p, []⟩ : Hul) :: S.hs.drop _) + tonP b S.un = tonP b S.ld
    rw [allT_ins]
    simp only [tonP]; omega
  rw [if_neg e3] at he ⊢
  have e4 : isK (fun h : Hul => h.n) x.h S.hs = true := by
    by_cases e4 : isK (fun h : Hul => h.n) x.h S.hs = true
    · exact e4
    · rw [if_neg e4] at he; simp at he
  rw [if_pos e4] at he ⊢
  have hk := (isK_iff.1 e4).1
  generalize posK (fun h : Hul => h.n) x.h S.hs = k at hk he
  by_cases e5 : x.k = 2
  · rw [if_pos e5] at he ⊢
    unfold loadP at he ⊢
    by_cases e6 : 100000 < tonP 0 (nth S.hs k).c + x.t
    · rw [if_pos e6] at he; simp at he
    rw [if_neg e6]
    show allT b (S.hs.set k ⟨(nth S.hs k).n, (nth S.hs k).p, bookP x.b x.t (nth S.hs k).c⟩) + tonP b S.un = tonP b (bookP x.b x.t S.ld)
    rw [allT_set b _ hk, tonP_book, tonP_book]; omega
  rw [if_neg e5] at he ⊢
  by_cases e6 : x.k = 3
  · rw [if_pos e6] at he ⊢
    unfold sailP at he ⊢
    by_cases e7 : x.p - (nth S.hs k).p = 0
    · rw [if_pos e7] at he; simp at he
    rw [if_neg e7]
    show allT b (S.hs.set k ⟨(nth S.hs k).n, x.p, (nth S.hs k).c⟩) + tonP b S.un = tonP b S.ld
    rw [allT_set b _ hk]; simp only []; omega
  · rw [if_neg e6] at he ⊢
    unfold unloadP at he ⊢
    by_cases e7 : tonP x.b (nth S.hs k).c < x.t
    · rw [if_pos e7] at he; simp at he
    rw [if_neg e7]
    show allT b (S.hs.set k ⟨(nth S.hs k).n, (nth S.hs k).p, bookP x.b (-x.t) (nth S.hs k).c⟩) + tonP b (bookP x.b x.t S.un) = tonP b S.ld
    rw [allT_set b _ hk, tonP_book, tonP_book]
    split <;> omega

end Go.Proofs.YtjdcpnaocjddoaaGreatDoor
namespace Go.Proofs.YtjdcpnaocjddoaaGreatDoor
open Go Go.RowKit Go.Proofs.Tryz
theorem take_eq {α : Type} [Inhabited α] {a b : List α} {j : Nat} (h : a.take j = b.take j) (hl : a.length = b.length) (hj : j < a.length) (he : nth a j = nth b j) : a.take (j + 1) = b.take (j + 1) := by
  rw [take_nth hj, take_nth (by omega), h, he]
theorem nth_take_ne {α : Type} [Inhabited α] {a b : List α} {j : Nat} (he : nth a j ≠ nth b j) : a ≠ b := fun e => he (by rw [e])
instance : DecidableEq Crg := fun a b => if h : a.b = b.b ∧ a.t = b.t then isTrue (by cases a; cases b; simp at h; simp [h]) else isFalse (fun e => h (by rw [e]; exact ⟨rfl, rfl⟩))

end Go.Proofs.YtjdcpnaocjddoaaGreatDoor
namespace Go.Proofs.YtjdcpnaocjddoaaGreatDoor
open Go Go.RowKit Go.Proofs.Tryz
end Go.Proofs.YtjdcpnaocjddoaaGreatDoor
namespace Go.Proofs
open Go.Shelf
def YtjdcpnaocjddoaaGreatDoor.layJoin_ren : Go.Shelf.Ren := ⟨fun | 156 => 147 | 165 => 168 | 166 => 119 | 169 => 120 | 240 => 150 | 241 => 184 | 276 => 172 | 277 => 200 | n => n, fun | 31 => 105 | 9 => 9 | 3 => 3 | 4 => 4 | 0 => 0 | 20 => 20 | 72 => 190 | 76 => 193 | 70 => 188 | 37 => 25 | 75 => 192 | 127 => 218 | 164 => 230 | 5 => 5 | 80 => 195 | n => n, fun | n => n⟩
theorem YtjdcpnaocjddoaaGreatDoor.layJoin : Go.Proofs.Lays.n156 Tryz.prog YtjdcpnaocjddoaaGreatDoor.layJoin_ren := {
  mixed := by kernel_rfl
  f156 := Tryz.func147.trans (congrArg some (by kernel_rfl))
  f165 := Tryz.func168.trans (congrArg some (by kernel_rfl))
  f166 := Tryz.func119.trans (congrArg some (by kernel_rfl))
  f169 := Tryz.func120.trans (congrArg some (by kernel_rfl))
  f240 := Tryz.func150.trans (congrArg some (by kernel_rfl))
  f241 := Tryz.func184.trans (congrArg some (by kernel_rfl))
  f276 := Tryz.func172.trans (congrArg some (by kernel_rfl))
  f277 := Tryz.func200.trans (congrArg some (by kernel_rfl))
  t0 := Tryz.underlying0
  a0 := Tryz.isAgg0
  z0 := Tryz.sizeOf0
  v0 := Tryz.zeroValue0
  t3 := Tryz.underlying3
  a3 := Tryz.isAgg3
  z3 := Tryz.sizeOf3
  v3 := Tryz.zeroValue3
  t4 := Tryz.underlying4
  a4 := Tryz.isAgg4
  z4 := Tryz.sizeOf4
  v4 := Tryz.zeroValue4
  t9 := Tryz.underlying9
  a9 := Tryz.isAgg9
  z9 := Tryz.sizeOf9
  v9 := Tryz.zeroValue9
  t20 := Tryz.underlying20
  a20 := Tryz.isAgg20
  z20 := Tryz.sizeOf20
  v20 := Tryz.zeroValue20
  t31 := Tryz.underlying105
  a31 := Tryz.isAgg105
  z31 := Tryz.sizeOf105
  v31 := Tryz.zeroValue105
  t37 := Tryz.underlying25
  a37 := Tryz.isAgg25
  z37 := Tryz.sizeOf25
  v37 := Tryz.zeroValue25
  t70 := Tryz.underlying188
  a70 := Tryz.isAgg188
  z70 := Tryz.sizeOf188
  v70 := Tryz.zeroValue188
  t72 := Tryz.underlying190
  a72 := Tryz.isAgg190
  z72 := Tryz.sizeOf190
  v72 := Tryz.zeroValue190
  t75 := Tryz.underlying192
  a75 := Tryz.isAgg192
  z75 := Tryz.sizeOf192
  v75 := Tryz.zeroValue192
  t76 := Tryz.underlying193
  a76 := Tryz.isAgg193
  z76 := Tryz.sizeOf193
  v76 := Tryz.zeroValue193
  t127 := Tryz.underlying218
  a127 := Tryz.isAgg218
  z127 := Tryz.sizeOf218
  v127 := Tryz.zeroValue218
  t164 := Tryz.underlying230
  a164 := Tryz.isAgg230
  z164 := Tryz.sizeOf230
  v164 := Tryz.zeroValue230 }
def YtjdcpnaocjddoaaGreatDoor.layItoa_ren : Go.Shelf.Ren := ⟨fun | 171 => 145 | 243 => 167 | 246 => 183 | 283 => 196 | 284 => 197 | 285 => 198 | 286 => 199 | 129 => 143 | 317 => 205 | 318 => 206 | 319 => 207 | 320 => 208 | 337 => 209 | 338 => 210 | n => n, fun | 3 => 3 | 9 => 9 | 2 => 2 | 4 => 4 | 171 => 249 | 0 => 0 | 53 => 214 | 37 => 25 | 5 => 5 | 173 => 251 | 212 => 266 | 51 => 97 | 20 => 20 | 213 => 267 | 46 => 120 | 232 => 123 | 233 => 268 | n => n, fun | 17 => 5 | 18 => 6 | 19 => 7 | n => n⟩
theorem YtjdcpnaocjddoaaGreatDoor.layItoa : Go.Proofs.LaysM.n171 Tryz.prog YtjdcpnaocjddoaaGreatDoor.layItoa_ren := {
  mixed := by kernel_rfl
  f129 := Tryz.func143.trans (congrArg some (by kernel_rfl))
  f171 := Tryz.func145.trans (congrArg some (by kernel_rfl))
  f243 := Tryz.func167.trans (congrArg some (by kernel_rfl))
  f246 := Tryz.func183.trans (congrArg some (by kernel_rfl))
  f283 := Tryz.func196.trans (congrArg some (by kernel_rfl))
  f284 := Tryz.func197.trans (congrArg some (by kernel_rfl))
  f285 := Tryz.func198.trans (congrArg some (by kernel_rfl))
  f286 := Tryz.func199.trans (congrArg some (by kernel_rfl))
  f317 := Tryz.func205.trans (congrArg some (by kernel_rfl))
  f318 := Tryz.func206.trans (congrArg some (by kernel_rfl))
  f319 := Tryz.func207.trans (congrArg some (by kernel_rfl))
  f320 := Tryz.func208.trans (congrArg some (by kernel_rfl))
  f337 := Tryz.func209.trans (congrArg some (by kernel_rfl))
  f338 := Tryz.func210.trans (congrArg some (by kernel_rfl))
  t0 := Tryz.underlying0
  a0 := Tryz.isAgg0
  z0 := Tryz.sizeOf0
  v0 := Tryz.zeroValue0
  t2 := Tryz.underlying2
  a2 := Tryz.isAgg2
  z2 := Tryz.sizeOf2
  v2 := Tryz.zeroValue2
  t3 := Tryz.underlying3
  a3 := Tryz.isAgg3
  z3 := Tryz.sizeOf3
  v3 := Tryz.zeroValue3
  t4 := Tryz.underlying4
  a4 := Tryz.isAgg4
  z4 := Tryz.sizeOf4
  v4 := Tryz.zeroValue4
  t5 := Tryz.underlying5
  a5 := Tryz.isAgg5
  z5 := Tryz.sizeOf5
  v5 := Tryz.zeroValue5
  t9 := Tryz.underlying9
  a9 := Tryz.isAgg9
  z9 := Tryz.sizeOf9
  v9 := Tryz.zeroValue9
  t20 := Tryz.underlying20
  a20 := Tryz.isAgg20
  z20 := Tryz.sizeOf20
  v20 := Tryz.zeroValue20
  t37 := Tryz.underlying25
  a37 := Tryz.isAgg25
  z37 := Tryz.sizeOf25
  v37 := Tryz.zeroValue25
  t46 := Tryz.underlying120
  a46 := Tryz.isAgg120
  z46 := Tryz.sizeOf120
  v46 := Tryz.zeroValue120
  t51 := Tryz.underlying97
  a51 := Tryz.isAgg97
  z51 := Tryz.sizeOf97
  v51 := Tryz.zeroValue97
  t53 := Tryz.underlying214
  a53 := Tryz.isAgg214
  z53 := Tryz.sizeOf214
  v53 := Tryz.zeroValue214
  t171 := Tryz.underlying249
  a171 := Tryz.isAgg249
  z171 := Tryz.sizeOf249
  v171 := Tryz.zeroValue249
  t173 := Tryz.underlying251
  a173 := Tryz.isAgg251
  z173 := Tryz.sizeOf251
  v173 := Tryz.zeroValue251
  t212 := Tryz.underlying266
  a212 := Tryz.isAgg266
  z212 := Tryz.sizeOf266
  v212 := Tryz.zeroValue266
  t213 := Tryz.underlying267
  a213 := Tryz.isAgg267
  z213 := Tryz.sizeOf267
  t232 := Tryz.underlying123
  a232 := Tryz.isAgg123
  z232 := Tryz.sizeOf123
  v232 := Tryz.zeroValue123
  t233 := Tryz.underlying268
  a233 := Tryz.isAgg268
  z233 := Tryz.sizeOf268
  v233 := Tryz.zeroValue268
  g17 := by kernel_rfl
  g18 := by kernel_rfl
  g19 := by kernel_rfl
  i0 := by kernel_rfl
  i2 := by kernel_rfl
  i3 := by kernel_rfl
  i4 := by kernel_rfl
  i5 := by kernel_rfl
  i9 := by kernel_rfl
  i20 := by kernel_rfl
  i37 := by kernel_rfl
  i46 := by kernel_rfl
  i51 := by kernel_rfl
  i53 := by kernel_rfl
  i171 := by kernel_rfl
  i173 := by kernel_rfl
  i212 := by kernel_rfl
  i232 := by kernel_rfl
  i233 := by kernel_rfl
  m17 := by kernel_rfl
  m18 := by kernel_rfl
  m19 := by kernel_rfl }
end Go.Proofs
namespace Go.Proofs.YtjdcpnaocjddoaaGreatDoor
open Go Go.RowKit Go.Proofs.Tryz Go.Shelf
def encStr (x : List UInt8) : List Value := [.string (strB x)]
theorem extraJ : Builder.Extra Tryz.prog layJoin_ren where
  sizeBuilder := by kernel_rfl
  liesBuilder := by kernel_rfl
  t5 := underlying5
  a5 := isAgg5
  z5 := sizeOf5
  v5 := zeroValue5
  infoByte := by kernel_rfl
  cellsByte := by kernel_rfl
  sizeByte := by kernel_rfl
  neB5 := by decide
/-- The table of powers of ten that strconv reads. -/
def Tab10 (w : World) : Prop := Lib.TabIs Tryz.prog w "internal/strconv.uint64pow10" .u64 Lib.pow10Tab
theorem grow_ext (w : World) (k : Nat) (os : Array Obj) : Ext w (Go.Sort.grow (w.drewN k) os) := by
  refine ⟨rfl, rfl, rfl, ?_, fun i hi _ => ?_⟩
  · show w.heap.size ≤ (w.heap ++ os).size
    rw [Array.size_append]; omega
  · show (w.heap ++ os)[i]? = w.heap[i]?
    rw [Array.getElem?_append_left hi]
theorem Tab10.keep {w w' : World} {S : Nat → Prop} (h : Tab10 w) (u : Upd S w w') (hS : ∀ g, Tryz.prog.globalNamed "internal/strconv.uint64pow10" = some g → ¬ S g) : Tab10 w' := by
  unfold Tab10 Lib.TabIs World.var? at *
  cases hg : Tryz.prog.globalNamed "internal/strconv.uint64pow10" with
  | none => rw [hg] at h; cases h
  | some g =>
    rw [hg] at h
    have h : (match w.heap[g]? with | some (.cells cs _ _) => some cs | _ => none) = some (Lib.pow10Tab.map fun z => Value.int .u64 z).toArray := h
    show (match w'.heap[g]? with | some (.cells cs _ _) => some cs | _ => none) = some (Lib.pow10Tab.map fun z => Value.int .u64 z).toArray
    have hlt : g < w.heap.size := by
      rcases Nat.lt_or_ge g w.heap.size with q | q
      · exact q
      · rw [Array.getElem?_eq_none q] at h; cases h
    rw [u.block g hlt (hS g hg)]
    exact h
theorem Tab10.ext {w w' : World} (h : Tab10 w) (u : Ext w w') : Tab10 w' := h.keep u (fun _ _ h => h)
theorem itoa_c (n : Int) (w0 : World) (hn : -9223372036854775808 ≤ n ∧ n ≤ 9223372036854775807) (ht : Tab10 w0) : CallsV Tryz.prog 145 [.int .i64 n] w0 fun v w' => v = .string (strB (Lib.itoa n)) ∧ Ext w0 w' := by
  refine Calls.mono (Any.strconv_Itoa layItoa n hn.1 hn.2 w0 ht) ?_
  rintro e w' ⟨rfl, k, os, rfl⟩
  exact ⟨_, rfl, rfl, grow_ext w0 k os⟩
theorem strB_data (l : List UInt8) : (strB l).data.toList = l := by simp [strB]
theorem join_c (xs : List (List UInt8)) (sep : List UInt8) (ao : Option Addr) (b o c : Nat) (w0 : World) (hs : Sl encStr 1 w0 ao b o xs) (hc : xs.length ≤ c) (hl : (Lib.join xs sep).length ≤ 1000000) (hn : xs.length ≤ 1000000) : CallsV Tryz.prog 147 [.slice ao xs.length c, .string (strB sep)] w0 fun v w' => v = .string (strB (Lib.join xs sep)) ∧ Ext w0 w' := by
  have em : (xs.map strB).map (·.data.toList) = xs := by
    rw [List.map_map]
    conv => rhs; rw [← List.map_id xs]
    exact List.map_congr_left fun x _ => strB_data x
  rcases Nat.eq_zero_or_pos xs.length with h0 | h0
  · have h0 : xs = [] := List.eq_nil_of_length_eq_zero h0
    subst h0
    refine Calls.mono (Any.strings_Join_none layJoin extraJ ao c (strB sep) w0) ?_
    rintro e w' ⟨rfl, rfl⟩
    exact ⟨_, rfl, rfl, Upd.refl _ _⟩
  · have ha := hs.addr h0
    subst ha
    have h := Any.strings_Join layJoin extraJ b o c (xs.map strB) (strB sep) w0 (fun j x hj => by
        rw [List.getElem?_map] at hj
        cases hx : xs[j]? with
        | none => rw [hx] at hj; cases hj
        | some y =>
          rw [hx] at hj
          injection hj with hj
          obtain ⟨h1, h2⟩ := List.getElem?_eq_some_iff.1 hx
          have h9 := hs.at_ j h1 0 (.string (strB (nth xs j))) rfl
          rw [nth_eq h1, h2, hj] at h9
          simpa using h9) (hs.lt h0) (by rw [List.length_map]; omega) (by rw [List.length_map]; exact hc) (by rw [em, strB_data]; omega)
    rw [List.length_map] at h
    refine Calls.mono h ?_
    rintro e w' ⟨rfl, hb⟩
    exact ⟨_, rfl, by rw [em, strB_data]; rfl, Below.ext hb⟩
/-- A builder's block, all of it from B on. -/
def BuiM (B b : Nat) (l : List UInt8) (w : World) : Prop := Lib.IsBuilder 190 5 B b (Lib.byteCells l) w
theorem wstr_c (B b : Nat) (l s : List UInt8) (w0 : World) (h : BuiM B b l w0) (hl : l.length + s.length ≤ 1000000000) (hB : B ≤ w0.heap.size) : CallsV Tryz.prog 119 [.pointer (some ⟨b, 0, none⟩), .string (strB s)] w0 fun _ w' => BuiM B b (l ++ s) w' ∧ Upd (fun i => B ≤ i) w0 w' := by
  refine Calls.mono (Any.Builder_WriteString { layJoin with } extraJ B b (Lib.byteCells l) (strB s) w0 h (by rw [Lib.byteCells_length, strB_size]; omega) hB) ?_
  rintro e w' ⟨rfl, hb, hw⟩
  refine ⟨_, rfl, .inr ?_, hw.os, hw.tape, hw.output, hw.size, fun k _ hn => hw.block k (by omega)⟩
  have e : Lib.byteCells (l ++ s) = Lib.byteCells l ++ Lib.strCells (strB s) := by simp [Lib.byteCells, Lib.strCells, strB]
  rw [e]; exact hb
theorem bstr_c (B b : Nat) (l : List UInt8) (w0 : World) (h : BuiM B b l w0) (hB : B ≤ w0.heap.size) : CallsV Tryz.prog 120 [.pointer (some ⟨b, 0, none⟩)] w0 fun v w' => v = .string (strB l) ∧ Upd (fun i => B ≤ i) w0 w' := by
  refine Calls.mono (Any.Builder_String_any { layJoin with } extraJ B b l w0 h hB) ?_
  rintro e w' ⟨rfl, hw⟩
  exact ⟨_, rfl, rfl, hw.os, hw.tape, hw.output, hw.size, fun k _ hn => hw.block k (by omega)⟩

end Go.Proofs.YtjdcpnaocjddoaaGreatDoor
namespace Go.Proofs.YtjdcpnaocjddoaaGreatDoor
open Go Go.RowKit Go.Proofs.Tryz
/-! ### bills of lading -/
structure Bil where
  n : Int
  c : Int
  t : Int
  f : Int
  o : Int
  s : List Int
  ao : Option Addr
  g : Nat
  ob : Nat
  cp : Nat
instance : Inhabited Bil := ⟨⟨0, 0, 0, 0, 0, [], none, 0, 0, 0⟩⟩
def encBil (x : Bil) : List Value := [.int .i64 x.n, .int .i64 x.c, .int .i64 x.t, .int .i64 x.f, .int .i64 x.o, .slice x.ao x.s.length x.cp]
def sealG (m : Int) : List Int → Bool
  | [] => true
  | n :: r => if m + 1 ≤ n ∧ n ≤ 99999 then sealG n r else false
def okBill (x : Bil) : Bool := sealG 0 x.s && decide ((1 ≤ x.n ∧ x.n ≤ 9999) ∧ (0 ≤ x.c ∧ x.c ≤ 99) ∧ (1 ≤ x.t ∧ x.t ≤ 100000) ∧ ((0 ≤ x.f ∧ x.f ≤ 100000) ∧ (0 ≤ x.o ∧ x.o ≤ 100000)) ∧ x.f ≠ x.o ∧ x.s.length ≤ 10)
theorem okBill_iff {x : Bil} (h : okBill x = true) : sealG 0 x.s = true ∧ (1 ≤ x.n ∧ x.n ≤ 9999) ∧ (0 ≤ x.c ∧ x.c ≤ 99) ∧ (1 ≤ x.t ∧ x.t ≤ 100000) ∧ ((0 ≤ x.f ∧ x.f ≤ 100000) ∧ (0 ≤ x.o ∧ x.o ≤ 100000)) ∧ x.f ≠ x.o ∧ x.s.length ≤ 10 := by
  unfold okBill at h
  rw [Bool.and_eq_true, decide_eq_true_eq] at h
  exact h
theorem sealG_mem : ∀ {l : List Int} {m : Int}, 0 ≤ m → sealG m l = true → ∀ n ∈ l, 0 ≤ n ∧ n ≤ 99999
  | [], _, _, _, _, hn => by cases hn
  | x :: r, m, hm, h, n, hn => by
    unfold sealG at h
    split at h
    · rcases List.mem_cons.1 hn with rfl | hn
      · omega
      · exact sealG_mem (by omega) h n hn
    · cases h
/-- a line with its check letters -/
def sealP (s : List UInt8) : List UInt8 := s ++ [UInt8.ofNat (97 + weighP s 673 / 26).toNat] ++ [UInt8.ofNat (97 + weighP s 673 % 26).toNat] ++ [10]
def sealedP (ws : List (List UInt8)) : List UInt8 := sealP (Lib.join ws [32] ++ [32])
def sealsP (l : List Int) : List (List UInt8) := if l.length = 0 then [[45]] else l.map Lib.itoa
def billP (x : Bil) : List UInt8 := sealedP [Lib.itoa x.n, Lib.itoa x.c, Lib.itoa x.t, Lib.itoa x.f ++ [62] ++ Lib.itoa x.o, Lib.join (sealsP x.s) [44]]
theorem weighP_r (l : List UInt8) : 0 ≤ weighP l 673 ∧ weighP l 673 ≤ 672 := by unfold weighP; omega
theorem sealP_len (s : List UInt8) : (sealP s).length = s.length + 3 := by simp [sealP]
theorem join_len (sep : List UInt8) (m : Nat) : ∀ xs : List (List UInt8), (∀ x ∈ xs, x.length ≤ m) → (Lib.join xs sep).length ≤ xs.length * (m + sep.length)
  | [], _ => by simp [Lib.join_nil]
  | x :: r, h => by
    rw [Lib.join_length]
    have hl : ∀ ys : List (List UInt8), (∀ y ∈ ys, y.length ≤ m) → Lib.lens ys ≤ ys.length * m := fun ys => by
      induction ys with
      | nil => intro _; simp [Lib.lens]
      | cons y ys ih =>
        intro hy
        have h1 := ih fun z hz => hy z (List.mem_cons_of_mem _ hz)
        have h2 := hy y (List.mem_cons_self ..)
        have e : Lib.lens (y :: ys) = y.length + Lib.lens ys := by simp [Lib.lens]
        rw [e, List.length_cons, Nat.succ_mul]; omega
    have h1 := hl (x :: r) h
    have h2 : sep.length * r.length ≤ (x :: r).length * sep.length := by rw [Nat.mul_comm]; exact Nat.mul_le_mul_right _ (by simp)
    rw [Nat.mul_add]; omega
theorem itoa_len {n : Int} (h : -1000000000 ≤ n ∧ n ≤ 1000000000) : (Lib.itoa n).length ≤ 21 := Lib.itoa_length_le n (by omega) (by omega)
theorem SlStr.own {xs : List (List UInt8)} {w : World} {b : Nat} {t : TypeId} (h : Blk w b t (xs.flatMap encStr)) : Sl encStr 1 w (some ⟨b, 0, none⟩) b 0 xs := by
  refine ⟨fun _ => rfl, fun _ => h.lt, fun i hi => ?_⟩
  intro j v hv
  have hj : j = 0 := by
    have := (List.getElem?_eq_some_iff.1 hv).1
    simp [encStr] at this; exact this
  subst hj
  have hv : v = .string (strB (nth xs i)) := by simpa [encStr] using hv.symm
  subst hv
  refine h.get ?_
  rw [Nat.zero_add, Nat.mul_one, Nat.add_zero]
  have e : xs.flatMap encStr = xs.map (fun x => Value.string (strB x)) := by
    clear h hv hi
    induction xs with
    | nil => rfl
    | cons x xs ih => rw [List.flatMap_cons, List.map_cons, ih]; rfl
  rw [e, List.getElem?_map, List.getElem?_eq_getElem hi, nth_eq hi]; rfl
theorem sealsP_len {x : Bil} (h : okBill x = true) : (sealsP x.s).length ≤ 10 ∧ ∀ y ∈ sealsP x.s, y.length ≤ 21 := by
  obtain ⟨h1, h2⟩ := okBill_iff h
  have h3 := sealG_mem (by decide) h1
  unfold sealsP
  split
  · exact ⟨by simp, fun y hy => by rw [List.mem_singleton.1 hy]; decide⟩
  · refine ⟨by rw [List.length_map]; omega, fun y hy => ?_⟩
    obtain ⟨n, hn, rfl⟩ := List.mem_map.1 hy
    have := h3 n hn
    exact itoa_len (by omega)
set_option maxHeartbeats 4000000 in
theorem isBill_c (x : Bil) (w0 : World) (hs : Sl encI 1 w0 x.ao x.g x.ob x.s) (hsl : x.s.length ≤ 17592186044416) :
    CallsV Tryz.prog 112 [.agg #[.int .i64 x.n, .int .i64 x.c, .int .i64 x.t, .int .i64 x.f, .int .i64 x.o, .slice x.ao x.s.length x.cp]] w0 (fun v w' => v = .bool (okBill x) ∧ Ext w0 w') := by
 refine f_n func112 ?_
 refine go ?_
 refine x_b fun bk2 w3 ebk2 sbk2 B4 u5 => ?_
 refine go ?_
 refine x_l2 (fun _ => False) [1, 7, 8] (fun (i : Nat) (m : Int) => [(3, .int .i64 m), (9, .int .i64 (i : Int))]) (fun i m w => (i ≤ x.s.length) ∧ (sealG m (x.s.drop i) = sealG 0 x.s) ∧ (0 ≤ m ∧ m ≤ 99999)) (fun i m => x.s.length - i) 0 0 ⟨(Nat.zero_le _), rfl, (by decide)⟩ ?_
 rintro i m w11 ⟨hi, hc, hm⟩ u12 zu12 K10 hK10
 refine go ?_
 refine q_p (fun g10 => ?_) fun g10 => ?_
 ·
  refine go ?_
  refine g_i i (hs.keep (((Upd.refl (fun _ => False) w0).nx u5).nx u12) (fun _ h => h)) (fun _ => ?_)
  refine go ?_
  refine x_l fun bk21 w22 ebk21 sbk21 B23 u24 => ?_
  refine x_c func62 rfl rfl (within1_v (m + 1) 99999 (nth x.s i) bk21 _ _ B23) ?_
  rintro _ w27 ⟨rfl, u28⟩ zu28
  refine go ?_
  refine q_p (fun g18 => ?_) fun g18 => ?_
  ·
   have g19 : ¬ (m + 1 ≤ (nth x.s i) ∧ (nth x.s i) ≤ 99999) := by simpa using g18
   refine go ?_
   refine f_1 results112 ?_
   have hS : sealG 0 x.s = false := by rw [← hc, drop_nth (by omega)]; unfold sealG; rw [if_neg g19]
   exact ⟨by unfold okBill; rw [hS]; rfl, u_d⟩
  have g19 : m + 1 ≤ (nth x.s i) ∧ (nth x.s i) ≤ 99999 := by simpa using g18
  refine go ?_
  exact hK10 (i + 1) (nth x.s i) ⟨(by omega), (by rw [drop_nth (by omega)] at hc; rw [← hc]; conv => rhs; unfold sealG; rw [if_pos g19]), (by omega)⟩
 have hS : sealG 0 x.s = true := by rw [← hc, List.drop_of_length_le (by omega)]; rfl
 refine go ?_
 refine x_l fun bk33 w34 ebk33 sbk33 B35 u36 => ?_
 refine x_c func62 rfl rfl (within1_v 1 9999 x.n bk33 _ _ B35) ?_
 rintro _ w39 ⟨rfl, u40⟩ zu40
 refine go ?_
 refine t_splitp 25 rfl (fun g25 => ?_) (fun g25 => ?_)
 ·
  refine go ?_
  refine x_l fun bk43 w44 ebk43 sbk43 B45 u46 => ?_
  refine x_c func62 rfl rfl (within1_v 0 99 x.c bk43 _ _ B45) ?_
  rintro _ w49 ⟨rfl, u50⟩ zu50
  refine go ?_
  refine t_splitp 31 rfl (fun g31 => ?_) (fun g31 => ?_)
  ·
   refine go ?_
   refine x_l fun bk53 w54 ebk53 sbk53 B55 u56 => ?_
   refine x_c func62 rfl rfl (within1_v 1 100000 x.t bk53 _ _ B55) ?_
   rintro _ w59 ⟨rfl, u60⟩ zu60
   refine go ?_
   refine t_splitp 37 rfl (fun g37 => ?_) (fun g37 => ?_)
   ·
    refine go ?_
    refine x_l fun bk63 w64 ebk63 sbk63 B65 u66 => ?_
    refine x_c func62 rfl rfl (within2_v 0 100000 x.f x.o bk63 _ _ B65) ?_
    rintro _ w69 ⟨rfl, u70⟩ zu70
    refine go ?_
    refine t_splitp 45 rfl (fun g45 => ?_) (fun g45 => ?_)
    ·
     refine go ?_
     refine t_splitp 52 rfl (fun g52 => ?_) (fun g52 => ?_)
     ·
      refine go ?_
      refine f_1 results112 ?_
      exact ⟨congrArg Value.bool (by unfold okBill; rw [hS, Bool.true_and]; first | exact (decide_eq_false (by omega)).symm | exact (decide_eq_true (by omega)).symm | exact decide_eq_decide.2 (by omega)), u_d⟩
     refine go ?_
     refine f_1 results112 ?_
     exact ⟨congrArg Value.bool (by unfold okBill; rw [hS, Bool.true_and]; first | exact (decide_eq_false (by omega)).symm | exact (decide_eq_true (by omega)).symm | exact decide_eq_decide.2 (by omega)), u_d⟩
    refine go ?_
    refine f_1 results112 ?_
    exact ⟨congrArg Value.bool (by unfold okBill; rw [hS, Bool.true_and]; first | exact (decide_eq_false (by omega)).symm | exact (decide_eq_true (by omega)).symm | exact decide_eq_decide.2 (by omega)), u_d⟩
   refine go ?_
   refine f_1 results112 ?_
   exact ⟨congrArg Value.bool (by unfold okBill; rw [hS, Bool.true_and]; first | exact (decide_eq_false (by omega)).symm | exact (decide_eq_true (by omega)).symm | exact decide_eq_decide.2 (by omega)), u_d⟩
  refine go ?_
  refine f_1 results112 ?_
  exact ⟨congrArg Value.bool (by unfold okBill; rw [hS, Bool.true_and]; first | exact (decide_eq_false (by omega)).symm | exact (decide_eq_true (by omega)).symm | exact decide_eq_decide.2 (by omega)), u_d⟩
 refine go ?_
 refine f_1 results112 ?_
 exact ⟨congrArg Value.bool (by unfold okBill; rw [hS, Bool.true_and]; first | exact (decide_eq_false (by omega)).symm | exact (decide_eq_true (by omega)).symm | exact decide_eq_decide.2 (by omega)), u_d⟩

theorem billAfter_c (x y : Bil) (w0 : World) :
    CallsV Tryz.prog 113 [.agg #[.int .i64 x.n, .int .i64 x.c, .int .i64 x.t, .int .i64 x.f, .int .i64 x.o, .slice x.ao x.s.length x.cp], .agg #[.int .i64 y.n, .int .i64 y.c, .int .i64 y.t, .int .i64 y.f, .int .i64 y.o, .slice y.ao y.s.length y.cp]] w0 (fun v w' => v = .bool (decide (x.n < y.n)) ∧ Ext w0 w') := by
 refine f_n func113 ?_
 refine go ?_
 refine x_b fun bk2 w3 ebk2 sbk2 B4 u5 => ?_
 refine x_b fun bk7 w8 ebk7 sbk7 B9 u10 => ?_
 refine go ?_
 refine f_1 results113 ?_
 exact ⟨rfl, u_d⟩

theorem sealed_c (ws : List (List UInt8)) (ao : Option Addr) (b o cap : Nat) (w0 : World) (hs : Sl encStr 1 w0 ao b o ws) (hcap : ws.length ≤ cap) (hwl : ws.length ≤ 1000) (hjl : (Lib.join ws [32]).length ≤ 90000) :
    CallsV Tryz.prog 146 [.slice ao ws.length cap] w0 (fun v w' => v = .string (strB (sealedP ws)) ∧ Ext w0 w') := by
 have hwr := weighP_r (Lib.join ws [32] ++ [32])
 have hsl9 : (Lib.join ws [32] ++ [32]).length = (Lib.join ws [32]).length + 1 := by simp
 refine f_n func146 ?_
 refine go ?_
 refine x_c func147 rfl rfl (join_c ws ([32]) ao b o cap _ hs hcap (by omega) (by omega)) ?_
 rintro _ w4 ⟨rfl, u5⟩ zu5
 refine t_bo (Bo.addS (by simp only [List.length_cons, List.length_nil]; omega)) rfl rfl rfl rfl ?_
 refine go ?_
 refine t_toB underlying9 underlying25 underlying5 rfl rfl rfl (fun bk9 cp10 w11 ebk9 sbk9 B12 u13 => ?_)
 refine x_c func64 rfl rfl (weigh_c ((Lib.join ws ([32])) ++ [32]) (some ⟨bk9, 0, none⟩) bk9 0 cp10 673 _ (B12.sl) (by omega) (by decide)) ?_
 rintro _ w16 ⟨rfl, u17⟩ zu17
 refine go ?_
 refine t_quo rfl rfl rfl rfl (by omega) (by omega) ?_
 refine go ?_
 refine t_conv underlying3 underlying21 rfl rfl rfl (IntWalk.i32_in _ (by omega)) (t_same 15 (v := .int .i32 ((97 + weighP (Lib.join ws [32] ++ [32]) 673 / 26).toNat : Int)) rfl (congrArg (Value.int .i32) (by omega)) (t_ofRune ((97 + weighP (Lib.join ws [32] ++ [32]) 673 / 26).toNat) (by kernel_rfl) underlying9 rfl rfl rfl rfl (by omega) (t_bo (Bo.addS (by simp only [List.length_append, List.length_cons, List.length_nil]; omega)) rfl rfl rfl rfl ?_)))
 refine go ?_
 refine t_rem rfl rfl rfl rfl (by omega) (by omega) ?_
 refine go ?_
 refine t_conv underlying3 underlying21 rfl rfl rfl (IntWalk.i32_in _ (by omega)) (t_same 21 (v := .int .i32 ((97 + weighP (Lib.join ws [32] ++ [32]) 673 % 26).toNat : Int)) rfl (congrArg (Value.int .i32) (by omega)) (t_ofRune ((97 + weighP (Lib.join ws [32] ++ [32]) 673 % 26).toNat) (by kernel_rfl) underlying9 rfl rfl rfl rfl (by omega) (t_bo (Bo.addS (by simp only [List.length_append, List.length_cons, List.length_nil]; omega)) rfl rfl rfl rfl (t_bo (Bo.addS (by simp only [List.length_append, List.length_cons, List.length_nil]; omega)) rfl rfl rfl rfl ?_))))
 refine go ?_
 refine f_1 results146 ?_
 exact ⟨rfl, u_d⟩

end Go.Proofs.YtjdcpnaocjddoaaGreatDoor
namespace Go.Proofs.YtjdcpnaocjddoaaGreatDoor
open Go Go.RowKit Go.Proofs.Tryz
theorem billP_len {x : Bil} (h : okBill x = true) : (Lib.join (sealsP x.s) [44]).length ≤ 220 ∧ (Lib.join [Lib.itoa x.n, Lib.itoa x.c, Lib.itoa x.t, Lib.itoa x.f ++ [62] ++ Lib.itoa x.o, Lib.join (sealsP x.s) [44]] [32]).length ≤ 1105 := by
  have h1 := okBill_iff h
  have h2 := sealsP_len h
  have h3 := join_len [44] 21 _ h2.2
  have l44 : ([44] : List UInt8).length = 1 := rfl
  rw [l44] at h3
  have h4 : (sealsP x.s).length * (21 + 1) ≤ 10 * 22 := Nat.mul_le_mul_right _ h2.1
  have h5 := join_len [32] 220 [Lib.itoa x.n, Lib.itoa x.c, Lib.itoa x.t, Lib.itoa x.f ++ [62] ++ Lib.itoa x.o, Lib.join (sealsP x.s) [44]] (fun y hy => by
    have i1 := itoa_len (n := x.n) (by omega)
    have i2 := itoa_len (n := x.c) (by omega)
    have i3 := itoa_len (n := x.t) (by omega)
    have i4 := itoa_len (n := x.f) (by omega)
    have i5 := itoa_len (n := x.o) (by omega)
    simp only [List.mem_cons, List.not_mem_nil, or_false] at hy
    rcases hy with rfl | rfl | rfl | rfl | rfl
    · omega
    · omega
    · omega
    · simp only [List.length_append, List.length_cons, List.length_nil]; omega
    · omega)
  simp only [List.length_cons, List.length_nil] at h5
  omega
theorem billP_le {x : Bil} (h : okBill x = true) : (billP x).length ≤ 1109 := by
  have h1 := (billP_len h).2
  unfold billP sealedP
  rw [sealP_len, List.length_append]
  simp only [List.length_cons, List.length_nil]
  omega

set_option maxHeartbeats 4000000 in
theorem billLine_c (x : Bil) (w0 : World) (hs : Sl encI 1 w0 x.ao x.g x.ob x.s) (hok : okBill x = true) (hT : Tab10 w0) (hpos : 0 < w0.heap.size) :
    CallsV Tryz.prog 114 [.agg #[.int .i64 x.n, .int .i64 x.c, .int .i64 x.t, .int .i64 x.f, .int .i64 x.o, .slice x.ao x.s.length x.cp]] w0 (fun v w' => v = .string (strB (billP x)) ∧ Ext w0 w') := by
 have hx9 := okBill_iff hok
 have hsm := sealG_mem (by decide) hx9.1
 refine f_n func114 ?_
 refine go ?_
 refine x_b fun bk2 w3 ebk2 sbk2 B4 u5 => ?_
 refine go ?_
 refine x_l4 (fun _ => False) [1, 7, 8] (fun (j : Nat) (a1 : Option Addr) (g1 : Nat) (c1 : Nat) => [(3, .slice a1 (((x.s.take j).map Lib.itoa).length) c1), (9, .int .i64 (j : Int))]) (fun j a1 g1 c1 w => (j ≤ x.s.length) ∧ (Acc encStr 1 9 w3.heap.size w a1 g1 c1 ((x.s.take j).map Lib.itoa))) (fun j a1 g1 c1 => x.s.length - j) 0 none 0 0 ⟨(Nat.zero_le _), (Acc.nil _ _ _ _ _ (by omega) (by omega))⟩ ?_
 rintro j a1 g1 c1 w11 ⟨hj, hA⟩ u12 zu12 K10 hK10
 have E13 := Sc.mk (((Upd.refl (fun _ => False) w0).nx u5).nx u12)
 have lt_g1 := hA.lt
 have hlt : ((x.s.take j).map Lib.itoa).length = j := by rw [List.length_map, List.length_take]; omega
 refine go ?_
 refine q_p (fun g10 => ?_) fun g10 => ?_
 ·
  have hxj := hsm _ (nth_mem (show j < x.s.length by omega))
  refine go ?_
  refine g_i j (hs.keep E13.u (fun _ h => h)) (fun _ => ?_)
  refine go ?_
  refine x_c func145 rfl rfl (itoa_c (nth x.s j) _ (by omega) (hT.ext E13.u)) ?_
  rintro _ w20 ⟨rfl, u21⟩ zu21
  refine x_l fun bk24 w25 ebk24 sbk24 B26 u27 => ?_
  have D29 := ((hA.keep u21 (fun _ h => h)).keep u27 (fun _ h => h))
  refine t_append (z := .string (strB ([]))) (bytes := 16) (k := 1) (base := w3.heap.size) (Lib.itoa (nth x.s j)) underlying105 (by kernel_rfl) rfl (by decide) (fun _ => rfl) (by intro x; simp [encStr, Value.oneCell']) rfl rfl rfl rfl D29 B26 (by omega) (by omega) (by decide) (fun ao30 gb31 cp32 w33 A34 u35 gegb31 lngb31 => ?_)
  have zu35 := u35.size
  have lt_gb31 := A34.lt
  refine go ?_
  exact hK10 (j + 1) ao30 gb31 cp32 ⟨(by omega), (by rw [take_nth (by omega), List.map_append]; exact A34)⟩ (hs := by exact ⟨(congrArg some (by rw [take_nth (by omega), List.map_append]; rfl)), rfl, rfl, rfl, rfl, trivial⟩)
 have hjt : x.s.take j = x.s := List.take_of_length_le (by omega)
 refine go ?_
 refine q_p (fun g21 => ?_) fun g21 => ?_
 ·
  have hse : sealsP x.s = [[45]] := by unfold sealsP; rw [if_pos (by omega)]
  have hbl := billP_len hok
  rw [hse] at hbl
  have hi1 := itoa_len (n := x.f) (by omega)
  have hi2 := itoa_len (n := x.o) (by omega)
  refine go ?_
  refine x_l fun bk39 w40 ebk39 sbk39 B41 u42 => ?_
  refine go ?_
  refine c_drawnM follows (fun _ => False) (OTl [0, 2, 6, 8, 12, 14, 18, 20, 26, 28, 34, 5, 11, 17, 23, 24, 31, 32, 37, 39, 41, 42]) (by kernel_rfl) fun w45 u46 => ?_
  have zu46 := u46.size
  have E47 := Sc.mk ((E13.u.nx u42).nx u46)
  refine go ?_
  refine x_c func145 rfl rfl (itoa_c x.n _ (by omega) (hT.ext E47.u)) ?_
  rintro _ w49 ⟨rfl, u50⟩ zu50
  have E52 := Sc.mk (E47.u.nx u50)
  refine go ?_
  refine x_c func145 rfl rfl (itoa_c x.c _ (by omega) (hT.ext E52.u)) ?_
  rintro _ w54 ⟨rfl, u55⟩ zu55
  have E57 := Sc.mk (E52.u.nx u55)
  refine go ?_
  refine x_c func145 rfl rfl (itoa_c x.t _ (by omega) (hT.ext E57.u)) ?_
  rintro _ w59 ⟨rfl, u60⟩ zu60
  have E62 := Sc.mk (E57.u.nx u60)
  refine go ?_
  refine x_c func145 rfl rfl (itoa_c x.f _ (by omega) (hT.ext E62.u)) ?_
  rintro _ w64 ⟨rfl, u65⟩ zu65
  refine go ?_
  refine y_bo (Bo.addS (by simp only [List.length_cons, List.length_nil]; omega)) rfl rfl rfl rfl ?_
  refine go ?_
  refine x_c func145 rfl rfl (itoa_c x.o _ (by omega) (hT.ext (E62.u.nx u65))) ?_
  rintro _ w69 ⟨rfl, u70⟩ zu70
  refine go ?_
  refine y_bo (Bo.addS (by simp only [List.length_append, List.length_cons, List.length_nil]; omega)) rfl rfl rfl rfl ?_
  refine go ?_
  have B73 := ((((((B41.kx u46).kx u50).kx u55).kx u60).kx u65).kx u70)
  refine x_c func147 rfl rfl (join_c ([[45]]) ([44]) (some ⟨bk39, 0, none⟩) bk39 0 1 _ (SlStr.own (xs := [[45]]) B73) (Nat.le_refl _) (by omega) (by simp only [List.length_cons, List.length_nil, List.length_map, List.length_take] at *; omega)) ?_
  rintro _ w75 ⟨rfl, u76⟩ zu76
  refine go ?_
  refine x_l fun bk79 w80 ebk79 sbk79 B81 u82 => ?_
  refine go ?_
  refine x_c func146 rfl rfl (sealed_c ([(Lib.itoa x.n), (Lib.itoa x.c), (Lib.itoa x.t), (((Lib.itoa x.f) ++ [62]) ++ (Lib.itoa x.o)), (Lib.join ([[45]]) ([44]))]) (some ⟨bk79, 0, none⟩) bk79 0 5 _ (SlStr.own (xs := [(Lib.itoa x.n), (Lib.itoa x.c), (Lib.itoa x.t), (((Lib.itoa x.f) ++ [62]) ++ (Lib.itoa x.o)), (Lib.join ([[45]]) ([44]))]) B81) (Nat.le_refl _) (by simp) (by omega)) ?_
  rintro _ w85 ⟨rfl, u86⟩ zu86
  refine go ?_
  refine f_1 results114 ?_
  exact ⟨by unfold billP; rw [hse], u_d⟩
 have hse : sealsP x.s = ((x.s.take j).map Lib.itoa) := by unfold sealsP; rw [if_neg (by omega), hjt]
 have hbl := billP_len hok
 rw [hse] at hbl
 have hi1 := itoa_len (n := x.f) (by omega)
 have hi2 := itoa_len (n := x.o) (by omega)
 refine go ?_
 refine c_drawnM follows (fun _ => False) (OTl [0, 2, 6, 8, 12, 14, 18, 20, 26, 28, 34, 5, 11, 17, 23, 24, 31, 32, 37, 39, 41, 42]) (by kernel_rfl) fun w90 u91 => ?_
 have zu91 := u91.size
 have E92 := Sc.mk (E13.u.nx u91)
 refine go ?_
 refine x_c func145 rfl rfl (itoa_c x.n _ (by omega) (hT.ext E92.u)) ?_
 rintro _ w94 ⟨rfl, u95⟩ zu95
 have E97 := Sc.mk (E92.u.nx u95)
 refine go ?_
 refine x_c func145 rfl rfl (itoa_c x.c _ (by omega) (hT.ext E97.u)) ?_
 rintro _ w99 ⟨rfl, u100⟩ zu100
 have E102 := Sc.mk (E97.u.nx u100)
 refine go ?_
 refine x_c func145 rfl rfl (itoa_c x.t _ (by omega) (hT.ext E102.u)) ?_
 rintro _ w104 ⟨rfl, u105⟩ zu105
 have E107 := Sc.mk (E102.u.nx u105)
 refine go ?_
 refine x_c func145 rfl rfl (itoa_c x.f _ (by omega) (hT.ext E107.u)) ?_
 rintro _ w109 ⟨rfl, u110⟩ zu110
 refine go ?_
 refine y_bo (Bo.addS (by simp only [List.length_cons, List.length_nil]; omega)) rfl rfl rfl rfl ?_
 refine go ?_
 refine x_c func145 rfl rfl (itoa_c x.o _ (by omega) (hT.ext (E107.u.nx u110))) ?_
 rintro _ w114 ⟨rfl, u115⟩ zu115
 refine go ?_
 refine y_bo (Bo.addS (by simp only [List.length_append, List.length_cons, List.length_nil]; omega)) rfl rfl rfl rfl ?_
 refine go ?_
 have D118 := ((((((hA.keep u91 (fun _ h => h)).keep u95 (fun _ h => h)).keep u100 (fun _ h => h)).keep u105 (fun _ h => h)).keep u110 (fun _ h => h)).keep u115 (fun _ h => h))
 refine x_c func147 rfl rfl (join_c ((x.s.take j).map Lib.itoa) ([44]) a1 g1 0 c1 _ (D118.sl (fun _ => rfl)) (D118).cap_le (by omega) (by simp only [List.length_map, List.length_take] at *; omega)) ?_
 rintro _ w120 ⟨rfl, u121⟩ zu121
 refine go ?_
 refine x_l fun bk124 w125 ebk124 sbk124 B126 u127 => ?_
 refine go ?_
 refine x_c func146 rfl rfl (sealed_c ([(Lib.itoa x.n), (Lib.itoa x.c), (Lib.itoa x.t), (((Lib.itoa x.f) ++ [62]) ++ (Lib.itoa x.o)), (Lib.join ((x.s.take j).map Lib.itoa) ([44]))]) (some ⟨bk124, 0, none⟩) bk124 0 5 _ (SlStr.own (xs := [(Lib.itoa x.n), (Lib.itoa x.c), (Lib.itoa x.t), (((Lib.itoa x.f) ++ [62]) ++ (Lib.itoa x.o)), (Lib.join ((x.s.take j).map Lib.itoa) ([44]))]) B126) (Nat.le_refl _) (by simp) (by omega)) ?_
 rintro _ w130 ⟨rfl, u131⟩ zu131
 refine go ?_
 refine f_1 results114 ?_
 exact ⟨by unfold billP; rw [hse], u_d⟩

end Go.Proofs.YtjdcpnaocjddoaaGreatDoor
namespace Go.Proofs.YtjdcpnaocjddoaaGreatDoor
open Go Go.RowKit Go.Proofs.Tryz
theorem BuiM.new {w : World} {b : Nat} (h : Blk w b 190 [.pointer none, .slice none 0 0]) : BuiM b b [] w :=
  .inl ⟨Nat.le_refl _, .slice none 0 0, by unfold Blk at h; simpa using h, ⟨rfl, .inl ⟨rfl, rfl⟩⟩, by simp [Value.ownBlock]⟩
theorem BuiM.ext {B b : Nat} {l : List UInt8} {w w' : World} (h : BuiM B b l w) (u : Ext w w') : BuiM B b l w' := by
  have key : ∀ p, Lib.BuilderAt 190 5 B b p (Lib.byteCells l) w → Lib.BuilderAt 190 5 B b p (Lib.byteCells l) w' := fun p hp => by
    obtain ⟨h1, v, h2, ⟨h3, h4⟩, h5⟩ := hp
    refine ⟨h1, v, (u.block b (lt_of_block h2) id).trans h2, ⟨h3, ?_⟩, h5⟩
    rcases h4 with h4 | ⟨g, cap, cur, e1, e2, e3, e4⟩
    · exact .inl h4
    · exact .inr ⟨g, cap, cur, e1, e2, (u.block g (lt_of_block e3) id).trans e3, e4⟩
  rcases h with h | h
  · exact .inl (key _ h)
  · exact .inr (key _ h)
def chkB (m : Int) : List Bil → Int
  | [] => 0
  | x :: r => if okBill x = true then (if m < x.n then chkB x.n r else 6) else 2
/-- what WriteBills answers -/
def textP (l : List Bil) : List UInt8 × Int := if 200 < l.length then ([], 5) else if chkB 0 l = 0 then (l.flatMap billP, 0) else ([], chkB 0 l)
theorem chkB_ok {m : Int} {x : Bil} {r : List Bil} (h1 : okBill x = true) (h2 : m < x.n) : chkB m (x :: r) = chkB x.n r := by
  show (if okBill x = true then _ else _) = _
  rw [if_pos h1, if_pos h2]
theorem bills_c  (w0 : World) :
    CallsV Tryz.prog 78 [] w0 (fun v w' => v = .agg #[.func (.func 112) #[] #[], .func (.func 113) #[] #[], .func (.func 114) #[] #[], .func (.func 115) #[] #[], .int .i64 200] ∧ Ext w0 w') := by
 refine f_n func78 ?_
 refine go ?_
 refine x_n fun bk2 w3 ebk2 sbk2 B4 u5 => ?_
 refine go ?_
 refine x_s fun w8 sw8 B10 u9 => ?_
 refine go ?_
 refine f_ret1 (v := .agg #[.func (.func 112) #[] #[], .func (.func 113) #[] #[], .func (.func 114) #[] #[], .func (.func 115) #[] #[], .int .i64 200]) results78 ⟨_, _, rfl, run_loadVarN (vs := [.func (.func 112) #[] #[], .func (.func 113) #[] #[], .func (.func 114) #[] #[], .func (.func 115) #[] #[], .int .i64 200]) isAgg147 sizeOf147 rfl (B10.at.sub 0 5)⟩ ?_
 exact ⟨rfl, u_d⟩

set_option maxHeartbeats 4000000 in
theorem text_c (l : List Bil) (al : Option Addr) (bl ol cl : Nat) (w0 : World) (hl : Sl encBil 6 w0 al bl ol l) (hss : ∀ x ∈ l, Sl encI 1 w0 x.ao x.g x.ob x.s ∧ x.s.length ≤ 17592186044416) (hll : l.length ≤ 1000000000) (hT : Tab10 w0) (hpos : 0 < w0.heap.size) :
    CallsV Tryz.prog 79 [.agg #[.func (.func 112) #[] #[], .func (.func 113) #[] #[], .func (.func 114) #[] #[], .func (.func 115) #[] #[], .int .i64 200], .slice al l.length cl] w0 (fun v w' => v = .tuple #[.string (strB (textP l).1), .int .i64 (textP l).2] ∧ Ext w0 w') := by
 refine f_n func79 ?_
 refine go ?_
 refine x_b fun bk2 w3 ebk2 sbk2 B4 u5 => ?_
 refine go ?_
 refine q_p (fun g13 => ?_) fun g13 => ?_
 ·
  refine go ?_
  refine f_ret2 (v1 := .string (strB ([]))) (v2 := .int .i64 5) results79 rfl rfl ?_
  exact ⟨by unfold textP; rw [if_pos (by omega)], u_d⟩
 refine go ?_
 refine x_n fun bk11 w12 ebk11 sbk11 B13 u14 => ?_
 have hbui := BuiM.new B13
 refine go ?_
 refine x_l2 (fun i => bk11 ≤ i) [1, 2, 6, 14, 15] (fun (i : Nat) (m : Int) => [(16, .int .i64 (i : Int))]) (fun i m w => (i ≤ l.length) ∧ (chkB 0 l = chkB m (l.drop i)) ∧ (m = if i = 0 then 0 else (nth l (i - 1)).n) ∧ (BuiM bk11 bk11 ((l.take i).flatMap billP) w) ∧ (((l.take i).flatMap billP).length ≤ 1109 * i)) (fun i m => l.length - i) 0 0 ⟨(Nat.zero_le _), rfl, rfl, hbui, (Nat.zero_le _)⟩ ?_
 rintro i m w19 ⟨hi, hc, hm, hbl, hln⟩ u20 zu20 K18 hK18
 have E21 := Sc.mk ((((Upd.refl (fun _ => False) w0).nx u5).nx u14).next u20 (fun i hi h => by omega))
 refine go ?_
 refine q_p (fun g17 => ?_) fun g17 => ?_
 ·
  refine go ?_
  refine g_i i (hl.keep E21.u (fun _ h => h)) (fun _ => ?_)
  refine go ?_
  refine x_n fun bk27 w28 ebk27 sbk27 B29 u30 => ?_
  refine go ?_
  refine x_s fun w32 sw32 B34 u33 => ?_
  have E35 := Sc.mk ((E21.u.nx u30).next u33 (fun i hi h => by omega))
  refine go ?_
  refine x_c func112 rfl rfl (isBill_c (nth l i) _ ((hss _ (nth_mem (show i < l.length by omega))).1.keep E35.u (fun _ h => h)) (hss _ (nth_mem (show i < l.length by omega))).2) ?_
  rintro _ w39 ⟨rfl, u40⟩ zu40
  refine go ?_
  refine q_b (fun g21 => ?_) fun g21 => ?_
  ·
   have hx : okBill (nth l i) = false := by simpa using g21
   refine go ?_
   refine f_ret2 (v1 := .string (strB ([]))) (v2 := .int .i64 2) results79 rfl rfl ?_
   have h200 : ¬ 200 < l.length := by omega
   have he : chkB 0 l = 2 := by rw [hc, drop_nth (by omega)]; unfold chkB; rw [if_neg (by rw [hx]; decide)]
   exact ⟨by unfold textP; rw [if_neg h200, he, if_neg (by decide)], u_d⟩
  have hx : okBill (nth l i) = true := by simpa using g21
  have hx9 := okBill_iff hx
  have hpl := billP_le hx
  refine go ?_
  refine c_drawnM follows (fun _ => False) (OTl [0, 2, 4, 6, 8, 10, 12, 14, 16, 18, 20, 23, 24, 26, 28]) (by kernel_rfl) fun w45 u46 => ?_
  have zu46 := u46.size
  have E47 := Sc.mk ((E35.u.nx u40).nx u46)
  refine go ?_
  refine y_splitp 30 rfl (fun g30 => ?_) (fun g30 => ?_)
  ·
   refine go ?_
   refine y_i (i - 1) (hl.keep E47.u (fun _ h => h)) (fun _ => ?_)
   refine go ?_
   refine x_c func113 rfl rfl (billAfter_c (nth l (i - 1)) (nth l i) _) ?_
   rintro _ w50 ⟨rfl, u51⟩ zu51
   have E53 := Sc.mk (E47.u.nx u51)
   refine go ?_
   refine q_b (fun g27 => ?_) fun g27 => ?_
   ·
    have hmn : ¬ (m < (nth l i).n) := by
      rw [hm]
      first
        | (rw [if_pos (by omega)]; omega)
        | (rw [if_neg (by omega)]; simpa using g27)
    refine go ?_
    refine f_ret2 (v1 := .string (strB ([]))) (v2 := .int .i64 6) results79 rfl rfl ?_
    have h200 : ¬ 200 < l.length := by omega
    have he : chkB 0 l = 6 := by rw [hc, drop_nth (by omega)]; unfold chkB; rw [if_pos hx, if_neg hmn]
    exact ⟨by unfold textP; rw [if_neg h200, he, if_neg (by decide)], u_d⟩
   have hmn : (m < (nth l i).n) := by
     rw [hm]
     first
       | (rw [if_pos (by omega)]; omega)
       | (rw [if_neg (by omega)]; simpa using g27)
   refine go ?_
   refine x_c func114 rfl rfl (billLine_c (nth l i) _ ((hss _ (nth_mem (show i < l.length by omega))).1.keep E53.u (fun _ h => h)) hx (hT.ext E53.u) (by omega)) ?_
   rintro _ w56 ⟨rfl, u57⟩ zu57
   refine x_c func119 rfl rfl (wstr_c bk11 bk11 ((l.take i).flatMap billP) (billP (nth l i)) _ (hbl.ext (((((((Upd.refl (fun _ => False) _).nx u30).next u33 (fun i hi (h : i = bk27) => show False by first | omega | assumption)).nx u40).nx u46).nx u51).nx u57)) (by omega) (by omega)) ?_
   rintro v60 w61 ⟨hb9, u62⟩ zu62
   refine go ?_
   exact hK18 (i + 1) ((nth l i).n) ⟨(by omega), (by rw [hc, drop_nth (by omega), chkB_ok hx hmn]), (by rw [if_neg (by omega), Nat.add_sub_cancel]), (by rw [take_nth (by omega), List.flatMap_append, show [(nth l i)].flatMap billP = billP (nth l i) by simp]; exact hb9), (by rw [take_nth (by omega), List.flatMap_append, show [(nth l i)].flatMap billP = billP (nth l i) by simp, List.length_append]; omega)⟩
  refine go ?_
  refine x_c func114 rfl rfl (billLine_c (nth l i) _ ((hss _ (nth_mem (show i < l.length by omega))).1.keep E47.u (fun _ h => h)) hx (hT.ext E47.u) (by omega)) ?_
  rintro _ w66 ⟨rfl, u67⟩ zu67
  refine x_c func119 rfl rfl (wstr_c bk11 bk11 ((l.take i).flatMap billP) (billP (nth l i)) _ (hbl.ext ((((((Upd.refl (fun _ => False) _).nx u30).next u33 (fun i hi (h : i = bk27) => show False by first | omega | assumption)).nx u40).nx u46).nx u67)) (by omega) (by omega)) ?_
  rintro v70 w71 ⟨hb9, u72⟩ zu72
  refine go ?_
  exact hK18 (i + 1) ((nth l i).n) ⟨(by omega), (by rw [hc, drop_nth (by omega), chkB_ok hx (show m < (nth l i).n by rw [hm, if_pos (by omega)]; omega)]), (by rw [if_neg (by omega), Nat.add_sub_cancel]), (by rw [take_nth (by omega), List.flatMap_append, show [(nth l i)].flatMap billP = billP (nth l i) by simp]; exact hb9), (by rw [take_nth (by omega), List.flatMap_append, show [(nth l i)].flatMap billP = billP (nth l i) by simp, List.length_append]; omega)⟩
 refine go ?_
 refine x_c func120 rfl rfl (bstr_c bk11 bk11 ((l.take i).flatMap billP) _ hbl (by omega)) ?_
 rintro _ w77 ⟨rfl, u78⟩ zu78
 refine go ?_
 refine f_ret2 (v1 := .string (strB ((l.take i).flatMap billP))) (v2 := .int .i64 0) results79 rfl rfl ?_
 have h200 : ¬ 200 < l.length := by omega
 have hil : l.take i = l := List.take_of_length_le (by omega)
 have he : chkB 0 l = 0 := by rw [hc, List.drop_of_length_le (by omega)]; rfl
 exact ⟨by unfold textP; rw [if_neg h200, he, if_pos rfl, hil], u_d⟩

theorem WriteBills_c (l : List Bil) (al : Option Addr) (bl ol cl : Nat) (w0 : World) (hl : Sl encBil 6 w0 al bl ol l) (hss : ∀ x ∈ l, Sl encI 1 w0 x.ao x.g x.ob x.s ∧ x.s.length ≤ 17592186044416) (hll : l.length ≤ 1000000000) (hT : Tab10 w0) (hpos : 0 < w0.heap.size) :
    CallsV Tryz.prog 38 [.slice al l.length cl] w0 (fun v w' => v = .tuple #[.string (strB (textP l).1), .int .i64 (textP l).2] ∧ Ext w0 w') := by
 refine f_n func38 ?_
 refine go ?_
 refine x_c func78 rfl rfl (bills_c _) ?_
 rintro _ w4 ⟨rfl, u5⟩ zu5
 have E7 := Sc.mk ((Upd.refl (fun _ => False) w0).nx u5)
 refine go ?_
 refine x_c func79 rfl rfl (text_c l al bl ol cl _ (hl.keep E7.u (fun _ h => h)) (fun x hx => ⟨(hss x hx).1.keep E7.u (fun _ h => h), (hss x hx).2⟩) hll (hT.ext E7.u) (by omega)) ?_
 rintro _ w9 ⟨rfl, u10⟩ zu10
 refine go ?_
 refine f_ret2 (v1 := .string (strB ((textP l).1))) (v2 := .int .i64 ((textP l).2)) results38 rfl rfl ?_
 exact ⟨rfl, u_d⟩

end Go.Proofs.YtjdcpnaocjddoaaGreatDoor
