/-
  Part 13 of the proof: contracts and plain laws. Conditions: none.
-/
import Derived.Shelf.Strings.OnBuilder
import Derived.Shelf.Strconv.Itoa3
import Derived.Ground.NamesProg
import Derived.Test.YtagmkfbbhfaceaaGreatDoorProg
import Derived.Lib.ItoaLen
import Derived.Lib.Join
import Derived.Maps.RangeRun
import Derived.Test.YtagmkfbbhfaceaaGreatDoorCK12
namespace Go.Proofs.YtagmkfbbhfaceaaGreatDoor
open Go Go.RowKit Go.Proofs.Tryz
set_option maxRecDepth 10000
def runP (S : Sea) (i : Nat) : List Ent → Int × Nat × Sea
  | [] => (0, 0, S)
  | x :: l => if (stepP S x).1 = 0 then runP { (stepP S x).2 with m := x.m } (i + 1) l else ((stepP S x).1, i, S)
def zSea : Sea := ⟨0, 0, [], [], []⟩
def SG0 : SG := ⟨0, [], none, 0, 0, [], none, 0, 0, [], none, 0, 0, 0⟩
/-- what Replay answers -/
def repP (S : Sea) (l : List Ent) : Int × Nat × Sea := if 2000 < l.length then (5, 0, zSea) else if (runP S 0 l).1 = 0 then (0, 0, (runP S 0 l).2.2) else ((runP S 0 l).1, (runP S 0 l).2.1, zSea)
theorem sl_nil {α : Type} [Inhabited α] {enc : α → List Value} {k : Nat} {w : World} (_h : 0 < w.heap.size) : Sl enc k w none 0 0 [] := ⟨fun hp => absurd hp (Nat.lt_irrefl _), fun hp => absurd hp (Nat.lt_irrefl _), fun _i hi => absurd hi (Nat.not_lt_zero _)⟩
theorem SIn.zero {w : World} (h : 0 < w.heap.size) : SIn w SG0 0 0 0 := ⟨sl_nil h, fun r hr => (by cases hr), sl_nil h, sl_nil h⟩
def SG.num (V : SG) (m wk : Int) : SG := { V with m := m, wk := wk }
theorem SeaM.low {base sb : Nat} {w w' : World} {V : SG} {S : Nat → Prop} (h : SeaM base sb w V) (u : Upd S w w') (hS : ∀ i, S i → i < base) : SeaM base sb w' V :=
  ⟨h.sge, h.blk.keep u (fun hs => by have := hS _ hs; have := h.sge; omega), h.hacc.keep u (fun hb hs => by have := hS _ hs; omega), fun r hr => ⟨(h.cacc r hr).1, (h.cacc r hr).2.keep u (fun hb hs => by have := hS _ hs; omega)⟩, h.lacc.keep u (fun hb hs => by have := hS _ hs; omega), h.uacc.keep u (fun hb hs => by have := hS _ hs; omega), h.lu, h.lr, h.rr⟩
theorem runP_ok {S : Sea} {i : Nat} {x : Ent} {l : List Ent} (h : (stepP S x).1 = 0) : runP S i (x :: l) = runP { (stepP S x).2 with m := x.m } (i + 1) l := by
  show (if (stepP S x).1 = 0 then _ else _) = _
  rw [if_pos h]
/-- All blocks of a state lie from b on, where there is something in them. -/
structure SeaF (b : Nat) (V : SG) : Prop where
  h : 0 < V.rs.length → b ≤ V.gh
  c : ∀ r ∈ V.rs, 0 < r.c.length → b ≤ r.g
  l : 0 < V.ld.length → b ≤ V.gl
  u : 0 < V.un.length → b ≤ V.gu
theorem SeaF.zero (b : Nat) : SeaF b SG0 := ⟨fun h => absurd h (Nat.lt_irrefl 0), fun r hr => (by cases hr), fun h => absurd h (Nat.lt_irrefl 0), fun h => absurd h (Nat.lt_irrefl 0)⟩
theorem SeaF.mono {b b' : Nat} {V : SG} (h : SeaF b V) (hb : b' ≤ b) : SeaF b' V := ⟨fun hp => by have := h.h hp; omega, fun r hr hp => by have := h.c r hr hp; omega, fun hp => by have := h.l hp; omega, fun hp => by have := h.u hp; omega⟩
theorem SeaM.seaF {base sb : Nat} {w : World} {V : SG} (h : SeaM base sb w V) : SeaF base V := ⟨fun hp => h.hacc.ge hp, fun r hr hp => (h.cacc r hr).2.ge hp, fun hp => h.lacc.ge hp, fun hp => h.uacc.ge hp⟩
set_option maxHeartbeats 4000000 in
theorem Replay_c (l : List Ent) (al : Option Addr) (bl ol cl : Nat) (V : SG) (oh o1 o2 : Nat) (T : Int) (w0 : World) (hl : Sl encEnt 6 w0 al bl ol l) (hll : l.length ≤ 1000000000) (hpos : 0 < w0.heap.size) (hI : SIn w0 V oh o1 o2) (hok : SeaOk T V.st) (hT : T ≤ 500000000) :
    CallsV Tryz.prog 19 [.agg #[.int .i64 V.m, .slice V.ah V.rs.length V.ch, .slice V.al V.ld.length V.cl, .slice V.au V.un.length V.cu, .int .i64 V.wk], .slice al l.length cl] w0 (fun v w' => (∃ V9, v = .tuple #[.agg V9.cells.toArray, .int .i64 ((repP V.st l).2.1 : Int), .int .i64 (repP V.st l).1] ∧ SIn w' V9 0 0 0 ∧ V9.st = (repP V.st l).2.2 ∧ SeaF w0.heap.size V9) ∧ Ext w0 w') := by
 have hT0 := hok.t
 refine f_n func19 ?_
 refine go ?_
 refine x_b fun bk2 w3 ebk2 sbk2 B4 u5 => ?_
 refine x_n fun bk7 w8 ebk7 sbk7 B9 u10 => ?_
 have E11 := Sc.mk (((Upd.refl (fun _ => False) w0).nx u5).nx u10)
 refine go ?_
 refine q_p (fun g13 => ?_) fun g13 => ?_
 ·
  refine go ?_
  refine x_s fun w15 sw15 B17 u16 => ?_
  refine go ?_
  refine f_ret3 (v1 := .agg #[.int .i64 0, .slice none 0 0, .slice none 0 0, .slice none 0 0, .int .i64 0]) (v2 := .int .i64 0) (v3 := .int .i64 5) results19 ⟨_, _, rfl, run_loadVarN (vs := [.int .i64 0, .slice none 0 0, .slice none 0 0, .slice none 0 0, .int .i64 0]) isAgg66 sizeOf66 rfl (B17.at.sub 0 5)⟩ rfl rfl ?_
  have he : repP V.st l = (5, 0, zSea) := by unfold repP; rw [if_pos (by omega)]
  rw [he]
  exact ⟨⟨SG0, rfl, (SIn.zero (by omega)), rfl, SeaF.zero _⟩, u_d⟩
 refine go ?_
 refine x_c func54 rfl rfl (own_c V oh o1 o2 _ (hI.ext E11.u) (by omega) hok.rlen hok.ld.len hok.un.len (fun r hr => (hok.rhul r hr).2.2.1.len)) ?_
 rintro _ w21 ⟨⟨sb, V1, rfl, hM, hst⟩, u22⟩ zu22
 have hsge := hM.sge
 have hsb := hM.blk.lt
 refine go ?_
 refine x_l2 (fun i => w8.heap.size ≤ i) [4, 7, 17, 18] (fun (j : Nat) (Vj : SG) => [(19, .int .i64 (j : Int))]) (fun j Vj w => (j ≤ l.length) ∧ (SeaM w8.heap.size sb w Vj) ∧ (runP V.st 0 l = runP Vj.st j (l.drop j)) ∧ (SeaOk (T + 100000 * (j : Int)) Vj.st)) (fun j Vj => l.length - j) 0 V1 ⟨(Nat.zero_le _), hM, (by rw [hst]; rfl), (by rw [hst]; simpa using hok)⟩ ?_
 rintro j Vj w28 ⟨hj, hMj, hrun, hoj⟩ u29 zu29 K27 hK27
 have hBj : Blk w28 sb 146 [.int .i64 Vj.m, .slice Vj.ah Vj.rs.length Vj.ch, .slice Vj.al Vj.ld.length Vj.cl, .slice Vj.au Vj.un.length Vj.cu, .int .i64 Vj.wk] := hMj.blk
 refine go ?_
 refine q_p (fun g20 => ?_) fun g20 => ?_
 ·
  refine go ?_
  refine g_i j (hl.keep ((E11.u.nx u22).next u29 (fun i hi h => by omega)) (fun _ h => h)) (fun _ => ?_)
  refine go ?_
  refine x_n fun bk36 w37 ebk36 sbk36 B38 u39 => ?_
  refine go ?_
  refine x_s fun w41 sw41 B43 u42 => ?_
  refine go ?_
  refine x_c func55 rfl rfl (step0_c w8.heap.size sb w28.heap.size Vj (T + 100000 * j) (nth l j) _ _ _ (hMj.ext (((Upd.refl (fun _ => False) _).nx u39).next u42 (fun i hi (h : i = bk36) => show False by first | omega | assumption))) hoj hMj.lts (by omega) (by omega) (by omega) rfl rfl) ?_
  rintro _ w48 ⟨⟨V2, rfl, hM2, hst2⟩, u49⟩ zu49
  have hB9 : Blk w48 sb 146 [.int .i64 V2.m, .slice V2.ah V2.rs.length V2.ch, .slice V2.al V2.ld.length V2.cl, .slice V2.au V2.un.length V2.cu, .int .i64 V2.wk] := hM2.blk
  refine go ?_
  refine q_p (fun g28 => ?_) fun g28 => ?_
  ·
   refine go ?_
   refine x_s fun w54 sw54 B56 u55 => ?_
   refine go ?_
   refine f_ret3 (v1 := .agg #[.int .i64 0, .slice none 0 0, .slice none 0 0, .slice none 0 0, .int .i64 0]) (v2 := .int .i64 (j : Int)) (v3 := .int .i64 ((stepP Vj.st (nth l j)).1)) results19 ⟨_, _, rfl, run_loadVarN (vs := [.int .i64 0, .slice none 0 0, .slice none 0 0, .slice none 0 0, .int .i64 0]) isAgg66 sizeOf66 rfl (B56.at.sub 0 5)⟩ rfl rfl ?_
   have hl9 : ¬ 2000 < l.length := by omega
   have hR : runP V.st 0 l = ((stepP Vj.st (nth l j)).1, j, Vj.st) := by rw [hrun, drop_nth (by omega)]; unfold runP; rw [if_neg (by omega)]
   have he : repP V.st l = ((stepP Vj.st (nth l j)).1, j, zSea) := by unfold repP; rw [if_neg hl9, hR, if_neg (by show ¬ (stepP Vj.st (nth l j)).1 = 0; omega)]
   rw [he]
   exact ⟨⟨SG0, rfl, (SIn.zero (by omega)), rfl, SeaF.zero _⟩, u_d⟩
  refine go ?_
  have hM58 := hM2
  refine x_s fun w59 sw59 B61 u60 => ?_
  have hM3 : SeaM w8.heap.size sb w59 (SG.num V2 (nth l j).m V2.wk) := hM58.setB u60 B61
  refine go ?_
  exact hK27 (j + 1) (SG.num V2 (nth l j).m V2.wk) ⟨(by omega), hM3, (by rw [hrun, drop_nth (by omega)]; rw [runP_ok (by omega), ← hst2]; rfl), (by have h9 := SeaOk.step hoj (by omega) (show (stepP Vj.st (nth l j)).1 = 0 by omega); rw [← hst2] at h9; rw [show T + 100000 * ((j + 1 : Nat) : Int) = T + 100000 * (j : Int) + 100000 by omega]; exact h9)⟩
 refine go ?_
 refine x_s fun w64 sw64 B66 u65 => ?_
 refine go ?_
 refine f_ret3 (v1 := .agg #[.int .i64 Vj.m, .slice Vj.ah Vj.rs.length Vj.ch, .slice Vj.al Vj.ld.length Vj.cl, .slice Vj.au Vj.un.length Vj.cu, .int .i64 Vj.wk]) (v2 := .int .i64 0) (v3 := .int .i64 0) results19 ⟨_, _, rfl, run_loadVarN (vs := [.int .i64 Vj.m, .slice Vj.ah Vj.rs.length Vj.ch, .slice Vj.al Vj.ld.length Vj.cl, .slice Vj.au Vj.un.length Vj.cu, .int .i64 Vj.wk]) isAgg66 sizeOf66 rfl (B66.at.sub 0 5)⟩ rfl rfl ?_
 have hl9 : ¬ 2000 < l.length := by omega
 have hR : runP V.st 0 l = (0, 0, Vj.st) := by rw [hrun, List.drop_of_length_le (by omega)]; rfl
 have he : repP V.st l = (0, 0, Vj.st) := by unfold repP; rw [if_neg hl9, hR, if_pos rfl]
 rw [he]
 exact ⟨⟨Vj, rfl, ((hMj.low u65 (fun i h => by omega))).sin, rfl, hMj.seaF.mono (by omega)⟩, u_d⟩

end Go.Proofs.YtagmkfbbhfaceaaGreatDoor
namespace Go.Proofs.YtagmkfbbhfaceaaGreatDoor
open Go Go.RowKit
set_option maxRecDepth 10000
/-! ### seasons: what is loaded is aboard or unloaded -/
theorem runP_app {a : List Ent} : ∀ {S : Sea} {i : Nat} (b : List Ent), (runP S i a).1 = 0 → runP S i (a ++ b) = runP (runP S i a).2.2 (i + a.length) b := by
  induction a with
  | nil => intro S i b _; rfl
  | cons x a ih =>
    intro S i b h
    by_cases hx : (stepP S x).1 = 0
    · rw [runP_ok hx] at h
      rw [List.cons_append, runP_ok hx, runP_ok hx, ih b h, List.length_cons]
      congr 1; omega
    · exfalso
      have e : runP S i (x :: a) = ((stepP S x).1, i, S) := by
        show (if (stepP S x).1 = 0 then _ else _) = _
        rw [if_neg hx]
      rw [e] at h
      exact hx h
def allT (b : Int) : List Hul → Int
  | [] => 0
  | h :: r => tonP b h.c + allT b r
theorem allT_app (b : Int) : ∀ l m : List Hul, allT b (l ++ m) = allT b l + allT b m
  | [], m => by simp [allT]
  | x :: l, m => by simp only [List.cons_append, allT, allT_app b l m]; omega
theorem allT_ins (b : Int) (l : List Hul) (k : Nat) (q : Hul) : allT b (l.take k ++ q :: l.drop k) = allT b l + tonP b q.c := by
  have e : allT b l = allT b (l.take k) + allT b (l.drop k) := by rw [← allT_app, List.take_append_drop]
  rw [allT_app, e]; simp only [allT]; omega
theorem allT_set (b : Int) (q : Hul) : ∀ {l : List Hul} {k : Nat}, k < l.length → allT b (l.set k q) = allT b l - tonP b (nth l k).c + tonP b q.c
  | x :: l, 0, _ => by
    have e : nth (x :: l) 0 = x := rfl
    rw [e, List.set_cons_zero]; simp only [allT]; omega
  | x :: l, k + 1, h => by
    have e : nth (x :: l) (k + 1) = nth l k := rfl
    rw [e, List.set_cons_succ]; simp only [allT]
    rw [allT_set b q (l := l) (k := k) (by simpa using h)]; omega
/-- What was loaded of a bill is aboard, or was unloaded. -/
def Bal (S : Sea) : Prop := ∀ b : Int, allT b S.hs + tonP b S.un = tonP b S.ld
theorem Bal.zero : Bal zSea := fun _ => rfl
theorem Bal.step {S : Sea} {x : Ent} (h : Bal S) (he : (stepP S x).1 = 0) : Bal { (stepP S x).2 with m := x.m } := by
  intro b
  have hb := h b
  unfold stepP at he ⊢
  by_cases e1 : okEnt x = false
  · rw [if_pos e1] at he; simp at he
  rw [if_neg e1] at he ⊢
  by_cases e2 : x.m < S.m
  · rw [if_pos e2] at he; simp at he
  rw [if_neg e2] at he ⊢
  by_cases e3 : x.k = 1
  · rw [if_pos e3] at he ⊢
    unfold buildP at he ⊢
    by_cases e4 : isK (fun h : Hul => h.n) x.h S.hs = true
    · rw [if_pos e4] at he; simp at he
    rw [if_neg e4]
    show allT b (S.hs.take _ ++ (⟨x.h, x.p, []⟩ : Hul) :: S.hs.drop _) + tonP b S.un = tonP b S.ld
    rw [allT_ins]
    simp only [tonP]; omega
  rw [if_neg e3] at he ⊢
  have e4 : isK (fun h : Hul => h.n) x.h S.hs = true := by
    by_cases e4 : isK (fun h : Hul => h.n) x.h S.hs = true
    · exact e4
    · rw [if_neg e4] at he; simp at he
  rw [if_pos e4] at he ⊢
  have hk := (isK_iff.1 e4).1
  generalize posK (fun h : Hul => h.n) x.h S.hs = k at hk he
  by_cases e5 : x.k = 2
  · rw [if_pos e5] at he ⊢
    unfold loadP at he ⊢
    by_cases e6 : 100000 < tonP 0 (nth S.hs k).c + x.t
    · rw [if_pos e6] at he; simp at he
    rw [if_neg e6]
    show allT b (S.hs.set k ⟨(nth S.hs k).n, (nth S.hs k).p, bookP x.b x.t (nth S.hs k).c⟩) + tonP b S.un = tonP b (bookP x.b x.t S.ld)
    rw [allT_set b _ hk, tonP_book, tonP_book]; omega
  rw [if_neg e5] at he ⊢
  by_cases e6 : x.k = 3
  · rw [if_pos e6] at he ⊢
    unfold sailP at he ⊢
    by_cases e7 : x.p - (nth S.hs k).p = 0
    · rw [if_pos e7] at he; simp at he
    rw [if_neg e7]
    show allT b (S.hs.set k ⟨(nth S.hs k).n, x.p, (nth S.hs k).c⟩) + tonP b S.un = tonP b S.ld
    rw [allT_set b _ hk]; simp only []; omega
  · rw [if_neg e6] at he ⊢
    unfold unloadP at he ⊢
    by_cases e7 : tonP x.b (nth S.hs k).c < x.t
    · rw [if_pos e7] at he; simp at he
    rw [if_neg e7]
    show allT b (S.hs.set k ⟨(nth S.hs k).n, (nth S.hs k).p, bookP x.b (-x.t) (nth S.hs k).c⟩) + tonP b (bookP x.b x.t S.un) = tonP b S.ld
    rw [allT_set b _ hk, tonP_book, tonP_book]
    split <;> omega

end Go.Proofs.YtagmkfbbhfaceaaGreatDoor
namespace Go.Proofs.YtagmkfbbhfaceaaGreatDoor
open Go Go.RowKit
set_option maxRecDepth 10000
theorem eqIn72 (n : Nat) (a0 : Int) (a1 : Int) (b0 : Int) (b1 : Int) (w : World) : (Op.equalIn (n + 2) 72 (.agg #[.int .i64 a0, .int .i64 a1]) (.agg #[.int .i64 b0, .int .i64 b1])).run Tryz.prog w = .ok (decide (a0 = b0) && decide (a1 = b1)) w := by
  have hS : Tryz.prog.underlying 72 = some (.struct (Tryz.prog.fieldsOf 72)) := by kernel_rfl
  have hp : Tryz.prog.stoodInHeld 72 = false := by kernel_rfl
  have p0 : ∀ (a0 : Int) (a1 : Int), (part 3 #[.int .i64 a0, .int .i64 a1] 0).run Tryz.prog w = .ok (.int .i64 a0) w := fun _ _ => by simp [part, Tryz.isAgg3]
  have p1 : ∀ (a0 : Int) (a1 : Int), (part 3 #[.int .i64 a0, .int .i64 a1] 1).run Tryz.prog w = .ok (.int .i64 a1) w := fun _ _ => by simp [part, Tryz.isAgg3]
  have e3 := fun a b w => equal_i64 Tryz.underlying3 (n + 0) a b w
  rw [run_equalIn_struct w (n + 1) 72 _ _ hS hp]
  simp only [Program.fieldsOf, Tryz.underlying72]
  simp only [Op.eqFields, Sem.run_bind, Sem.run_ite, p0, p1, e3, Result.andThen_ok]
  by_cases h0 : a0 = b0 <;> by_cases h1 : a1 = b1 <;> simp [h0, h1]

instance : DecidableEq Crg := fun a b => if h : a.b = b.b ∧ a.t = b.t then isTrue (by cases a; cases b; simp at h; simp [h]) else isFalse (fun e => h (by rw [e]; exact ⟨rfl, rfl⟩))


end Go.Proofs.YtagmkfbbhfaceaaGreatDoor
namespace Go.Proofs.YtagmkfbbhfaceaaGreatDoor
open Go Go.RowKit
set_option maxRecDepth 10000
end Go.Proofs.YtagmkfbbhfaceaaGreatDoor
namespace Go.Proofs
open Go.Shelf
def YtagmkfbbhfaceaaGreatDoor.layJoin_ren : Go.Shelf.Ren := ⟨fun | 156 => 187 | 165 => 217 | 166 => 109 | 169 => 110 | 240 => 152 | 241 => 245 | 276 => 193 | 277 => 268 | n => n, fun | 31 => 206 | 9 => 9 | 3 => 3 | 4 => 4 | 0 => 0 | 20 => 20 | 72 => 214 | 76 => 210 | 70 => 212 | 37 => 24 | 75 => 209 | 127 => 263 | 164 => 305 | 5 => 5 | 80 => 215 | n => n, fun | n => n⟩
theorem YtagmkfbbhfaceaaGreatDoor.layJoin : Go.Proofs.Lays.n156 Tryz.prog YtagmkfbbhfaceaaGreatDoor.layJoin_ren := {
  mixed := by kernel_rfl
  f156 := Tryz.func187.trans (congrArg some (by kernel_rfl))
  f165 := Tryz.func217.trans (congrArg some (by kernel_rfl))
  f166 := Tryz.func109.trans (congrArg some (by kernel_rfl))
  f169 := Tryz.func110.trans (congrArg some (by kernel_rfl))
  f240 := Tryz.func152.trans (congrArg some (by kernel_rfl))
  f241 := Tryz.func245.trans (congrArg some (by kernel_rfl))
  f276 := Tryz.func193.trans (congrArg some (by kernel_rfl))
  f277 := Tryz.func268.trans (congrArg some (by kernel_rfl))
  t0 := Tryz.underlying0
  a0 := Tryz.isAgg0
  z0 := Tryz.sizeOf0
  v0 := Tryz.zeroValue0
  t3 := Tryz.underlying3
  a3 := Tryz.isAgg3
  z3 := Tryz.sizeOf3
  v3 := Tryz.zeroValue3
  t4 := Tryz.underlying4
  a4 := Tryz.isAgg4
  z4 := Tryz.sizeOf4
  v4 := Tryz.zeroValue4
  t9 := Tryz.underlying9
  a9 := Tryz.isAgg9
  z9 := Tryz.sizeOf9
  v9 := Tryz.zeroValue9
  t20 := Tryz.underlying20
  a20 := Tryz.isAgg20
  z20 := Tryz.sizeOf20
  v20 := Tryz.zeroValue20
  t31 := Tryz.underlying206
  a31 := Tryz.isAgg206
  z31 := Tryz.sizeOf206
  v31 := Tryz.zeroValue206
  t37 := Tryz.underlying24
  a37 := Tryz.isAgg24
  z37 := Tryz.sizeOf24
  v37 := Tryz.zeroValue24
  t70 := Tryz.underlying212
  a70 := Tryz.isAgg212
  z70 := Tryz.sizeOf212
  v70 := Tryz.zeroValue212
  t72 := Tryz.underlying214
  a72 := Tryz.isAgg214
  z72 := Tryz.sizeOf214
  v72 := Tryz.zeroValue214
  t75 := Tryz.underlying209
  a75 := Tryz.isAgg209
  z75 := Tryz.sizeOf209
  v75 := Tryz.zeroValue209
  t76 := Tryz.underlying210
  a76 := Tryz.isAgg210
  z76 := Tryz.sizeOf210
  v76 := Tryz.zeroValue210
  t127 := Tryz.underlying263
  a127 := Tryz.isAgg263
  z127 := Tryz.sizeOf263
  v127 := Tryz.zeroValue263
  t164 := Tryz.underlying305
  a164 := Tryz.isAgg305
  z164 := Tryz.sizeOf305
  v164 := Tryz.zeroValue305 }
def YtagmkfbbhfaceaaGreatDoor.layItoa_ren : Go.Shelf.Ren := ⟨fun | 171 => 147 | 243 => 186 | 246 => 216 | 283 => 241 | 284 => 242 | 285 => 243 | 286 => 244 | 129 => 173 | 317 => 264 | 318 => 265 | 319 => 266 | 320 => 267 | 337 => 274 | 338 => 275 | n => n, fun | 3 => 3 | 9 => 9 | 2 => 2 | 4 => 4 | 171 => 347 | 0 => 0 | 53 => 225 | 37 => 24 | 5 => 5 | 173 => 349 | 212 => 372 | 51 => 94 | 20 => 20 | 213 => 373 | 46 => 175 | 232 => 110 | 233 => 384 | n => n, fun | 17 => 5 | 18 => 8 | 19 => 9 | n => n⟩
theorem YtagmkfbbhfaceaaGreatDoor.layItoa : Go.Proofs.LaysM.n171 Tryz.prog YtagmkfbbhfaceaaGreatDoor.layItoa_ren := {
  mixed := by kernel_rfl
  f129 := Tryz.func173.trans (congrArg some (by kernel_rfl))
  f171 := Tryz.func147.trans (congrArg some (by kernel_rfl))
  f243 := Tryz.func186.trans (congrArg some (by kernel_rfl))
  f246 := Tryz.func216.trans (congrArg some (by kernel_rfl))
  f283 := Tryz.func241.trans (congrArg some (by kernel_rfl))
  f284 := Tryz.func242.trans (congrArg some (by kernel_rfl))
  f285 := Tryz.func243.trans (congrArg some (by kernel_rfl))
  f286 := Tryz.func244.trans (congrArg some (by kernel_rfl))
  f317 := Tryz.func264.trans (congrArg some (by kernel_rfl))
  f318 := Tryz.func265.trans (congrArg some (by kernel_rfl))
  f319 := Tryz.func266.trans (congrArg some (by kernel_rfl))
  f320 := Tryz.func267.trans (congrArg some (by kernel_rfl))
  f337 := Tryz.func274.trans (congrArg some (by kernel_rfl))
  f338 := Tryz.func275.trans (congrArg some (by kernel_rfl))
  t0 := Tryz.underlying0
  a0 := Tryz.isAgg0
  z0 := Tryz.sizeOf0
  v0 := Tryz.zeroValue0
  t2 := Tryz.underlying2
  a2 := Tryz.isAgg2
  z2 := Tryz.sizeOf2
  v2 := Tryz.zeroValue2
  t3 := Tryz.underlying3
  a3 := Tryz.isAgg3
  z3 := Tryz.sizeOf3
  v3 := Tryz.zeroValue3
  t4 := Tryz.underlying4
  a4 := Tryz.isAgg4
  z4 := Tryz.sizeOf4
  v4 := Tryz.zeroValue4
  t5 := Tryz.underlying5
  a5 := Tryz.isAgg5
  z5 := Tryz.sizeOf5
  v5 := Tryz.zeroValue5
  t9 := Tryz.underlying9
  a9 := Tryz.isAgg9
  z9 := Tryz.sizeOf9
  v9 := Tryz.zeroValue9
  t20 := Tryz.underlying20
  a20 := Tryz.isAgg20
  z20 := Tryz.sizeOf20
  v20 := Tryz.zeroValue20
  t37 := Tryz.underlying24
  a37 := Tryz.isAgg24
  z37 := Tryz.sizeOf24
  v37 := Tryz.zeroValue24
  t46 := Tryz.underlying175
  a46 := Tryz.isAgg175
  z46 := Tryz.sizeOf175
  v46 := Tryz.zeroValue175
  t51 := Tryz.underlying94
  a51 := Tryz.isAgg94
  z51 := Tryz.sizeOf94
  v51 := Tryz.zeroValue94
  t53 := Tryz.underlying225
  a53 := Tryz.isAgg225
  z53 := Tryz.sizeOf225
  v53 := Tryz.zeroValue225
  t171 := Tryz.underlying347
  a171 := Tryz.isAgg347
  z171 := Tryz.sizeOf347
  v171 := Tryz.zeroValue347
  t173 := Tryz.underlying349
  a173 := Tryz.isAgg349
  z173 := Tryz.sizeOf349
  v173 := Tryz.zeroValue349
  t212 := Tryz.underlying372
  a212 := Tryz.isAgg372
  z212 := Tryz.sizeOf372
  v212 := Tryz.zeroValue372
  t213 := Tryz.underlying373
  a213 := Tryz.isAgg373
  z213 := Tryz.sizeOf373
  t232 := Tryz.underlying110
  a232 := Tryz.isAgg110
  z232 := Tryz.sizeOf110
  v232 := Tryz.zeroValue110
  t233 := Tryz.underlying384
  a233 := Tryz.isAgg384
  z233 := Tryz.sizeOf384
  v233 := Tryz.zeroValue384
  g17 := by kernel_rfl
  g18 := by kernel_rfl
  g19 := by kernel_rfl
  i0 := by kernel_rfl
  i2 := by kernel_rfl
  i3 := by kernel_rfl
  i4 := by kernel_rfl
  i5 := by kernel_rfl
  i9 := by kernel_rfl
  i20 := by kernel_rfl
  i37 := by kernel_rfl
  i46 := by kernel_rfl
  i51 := by kernel_rfl
  i53 := by kernel_rfl
  i171 := by kernel_rfl
  i173 := by kernel_rfl
  i212 := by kernel_rfl
  i232 := by kernel_rfl
  i233 := by kernel_rfl
  m17 := by kernel_rfl
  m18 := by kernel_rfl
  m19 := by kernel_rfl }
end Go.Proofs
namespace Go.Proofs.YtagmkfbbhfaceaaGreatDoor
open Go Go.RowKit Go.Proofs.Tryz Go.Shelf
def encStr (x : List UInt8) : List Value := [.string (strB x)]
theorem extraJ : Builder.Extra Tryz.prog layJoin_ren where
  sizeBuilder := by kernel_rfl
  liesBuilder := by kernel_rfl
  t5 := underlying5
  a5 := isAgg5
  z5 := sizeOf5
  v5 := zeroValue5
  infoByte := by kernel_rfl
  cellsByte := by kernel_rfl
  sizeByte := by kernel_rfl
  neB5 := by decide
/-- The table of powers of ten that strconv reads. -/
def Tab10 (w : World) : Prop := Lib.TabIs Tryz.prog w "internal/strconv.uint64pow10" .u64 Lib.pow10Tab
theorem grow_ext (w : World) (k : Nat) (os : Array Obj) : Ext w (Go.Sort.grow (w.drewN k) os) := by
  refine ⟨rfl, rfl, rfl, ?_, fun i hi _ => ?_⟩
  · show w.heap.size ≤ (w.heap ++ os).size
    rw [Array.size_append]; omega
  · show (w.heap ++ os)[i]? = w.heap[i]?
    rw [Array.getElem?_append_left hi]
theorem Tab10.keep {w w' : World} {S : Nat → Prop} (h : Tab10 w) (u : Upd S w w') (hS : ∀ g, Tryz.prog.globalNamed "internal/strconv.uint64pow10" = some g → ¬ S g) : Tab10 w' := by
  unfold Tab10 Lib.TabIs World.var? at *
  cases hg : Tryz.prog.globalNamed "internal/strconv.uint64pow10" with
  | none => rw [hg] at h; cases h
  | some g =>
    rw [hg] at h
    have h : (match w.heap[g]? with | some (.cells cs _ _) => some cs | _ => none) = some (Lib.pow10Tab.map fun z => Value.int .u64 z).toArray := h
    show (match w'.heap[g]? with | some (.cells cs _ _) => some cs | _ => none) = some (Lib.pow10Tab.map fun z => Value.int .u64 z).toArray
    have hlt : g < w.heap.size := by
      rcases Nat.lt_or_ge g w.heap.size with q | q
      · exact q
      · rw [Array.getElem?_eq_none q] at h; cases h
    rw [u.block g hlt (hS g hg)]
    exact h
theorem Tab10.ext {w w' : World} (h : Tab10 w) (u : Ext w w') : Tab10 w' := h.keep u (fun _ _ h => h)
theorem itoa_c (n : Int) (w0 : World) (hn : -9223372036854775808 ≤ n ∧ n ≤ 9223372036854775807) (ht : Tab10 w0) : CallsV Tryz.prog 147 [.int .i64 n] w0 fun v w' => v = .string (strB (Lib.itoa n)) ∧ Ext w0 w' := by
  refine Calls.mono (Any.strconv_Itoa layItoa n hn.1 hn.2 w0 ht) ?_
  rintro e w' ⟨rfl, k, os, rfl⟩
  exact ⟨_, rfl, rfl, grow_ext w0 k os⟩
theorem strB_data (l : List UInt8) : (strB l).data.toList = l := by simp [strB]
theorem join_c (xs : List (List UInt8)) (sep : List UInt8) (ao : Option Addr) (b o c : Nat) (w0 : World) (hs : Sl encStr 1 w0 ao b o xs) (hc : xs.length ≤ c) (hl : (Lib.join xs sep).length ≤ 1000000) (hn : xs.length ≤ 1000000) : CallsV Tryz.prog 187 [.slice ao xs.length c, .string (strB sep)] w0 fun v w' => v = .string (strB (Lib.join xs sep)) ∧ Ext w0 w' := by
  have em : (xs.map strB).map (·.data.toList) = xs := by
    rw [List.map_map]
    conv => rhs; rw [← List.map_id xs]
    exact List.map_congr_left fun x _ => strB_data x
  rcases Nat.eq_zero_or_pos xs.length with h0 | h0
  · have h0 : xs = [] := List.eq_nil_of_length_eq_zero h0
    subst h0
    refine Calls.mono (Any.strings_Join_none layJoin extraJ ao c (strB sep) w0) ?_
    rintro e w' ⟨rfl, rfl⟩
    exact ⟨_, rfl, rfl, Upd.refl _ _⟩
  · have ha := hs.addr h0
    subst ha
    have h := Any.strings_Join layJoin extraJ b o c (xs.map strB) (strB sep) w0 (fun j x hj => by
        rw [List.getElem?_map] at hj
        cases hx : xs[j]? with
        | none => rw [hx] at hj; cases hj
        | some y =>
          rw [hx] at hj
          injection hj with hj
          obtain ⟨h1, h2⟩ := List.getElem?_eq_some_iff.1 hx
          have h9 := hs.at_ j h1 0 (.string (strB (nth xs j))) rfl
          rw [nth_eq h1, h2, hj] at h9
          simpa using h9) (hs.lt h0) (by rw [List.length_map]; omega) (by rw [List.length_map]; exact hc) (by rw [em, strB_data]; omega)
    rw [List.length_map] at h
    refine Calls.mono h ?_
    rintro e w' ⟨rfl, hb⟩
    exact ⟨_, rfl, by rw [em, strB_data]; rfl, Below.ext hb⟩
/-- A builder's block, all of it from B on. -/
def BuiM (B b : Nat) (l : List UInt8) (w : World) : Prop := Lib.IsBuilder 214 5 B b (Lib.byteCells l) w
theorem wstr_c (B b : Nat) (l s : List UInt8) (w0 : World) (h : BuiM B b l w0) (hl : l.length + s.length ≤ 1000000000) (hB : B ≤ w0.heap.size) : CallsV Tryz.prog 109 [.pointer (some ⟨b, 0, none⟩), .string (strB s)] w0 fun _ w' => BuiM B b (l ++ s) w' ∧ Upd (fun i => B ≤ i) w0 w' := by
  refine Calls.mono (Any.Builder_WriteString { layJoin with } extraJ B b (Lib.byteCells l) (strB s) w0 h (by rw [Lib.byteCells_length, strB_size]; omega) hB) ?_
  rintro e w' ⟨rfl, hb, hw⟩
  refine ⟨_, rfl, .inr ?_, hw.os, hw.tape, hw.output, hw.size, fun k _ hn => hw.block k (by omega)⟩
  have e : Lib.byteCells (l ++ s) = Lib.byteCells l ++ Lib.strCells (strB s) := by simp [Lib.byteCells, Lib.strCells, strB]
  rw [e]; exact hb
theorem bstr_c (B b : Nat) (l : List UInt8) (w0 : World) (h : BuiM B b l w0) (hB : B ≤ w0.heap.size) : CallsV Tryz.prog 110 [.pointer (some ⟨b, 0, none⟩)] w0 fun v w' => v = .string (strB l) ∧ Upd (fun i => B ≤ i) w0 w' := by
  refine Calls.mono (Any.Builder_String_any { layJoin with } extraJ B b l w0 h hB) ?_
  rintro e w' ⟨rfl, hw⟩
  exact ⟨_, rfl, rfl, hw.os, hw.tape, hw.output, hw.size, fun k _ hn => hw.block k (by omega)⟩

end Go.Proofs.YtagmkfbbhfaceaaGreatDoor
namespace Go.Proofs.YtagmkfbbhfaceaaGreatDoor
open Go Go.RowKit Go.Proofs.Tryz
set_option maxRecDepth 10000
/-! ### bills of lading -/
structure Bil where
  n : Int
  c : Int
  t : Int
  f : Int
  o : Int
  s : List Int
  ao : Option Addr
  g : Nat
  ob : Nat
  cp : Nat
instance : Inhabited Bil := ⟨⟨0, 0, 0, 0, 0, [], none, 0, 0, 0⟩⟩
/-- a line with its check letters -/
def sealP (s : List UInt8) : List UInt8 := s ++ [UInt8.ofNat (97 + weighP s 673 / 26).toNat] ++ [UInt8.ofNat (97 + weighP s 673 % 26).toNat] ++ [10]
def sealedP (ws : List (List UInt8)) : List UInt8 := sealP (Lib.join ws [32] ++ [32])
theorem weighP_r (l : List UInt8) : 0 ≤ weighP l 673 ∧ weighP l 673 ≤ 672 := by unfold weighP; omega
theorem sealP_len (s : List UInt8) : (sealP s).length = s.length + 3 := by simp [sealP]
theorem join_len (sep : List UInt8) (m : Nat) : ∀ xs : List (List UInt8), (∀ x ∈ xs, x.length ≤ m) → (Lib.join xs sep).length ≤ xs.length * (m + sep.length)
  | [], _ => by simp [Lib.join_nil]
  | x :: r, h => by
    rw [Lib.join_length]
    have hl : ∀ ys : List (List UInt8), (∀ y ∈ ys, y.length ≤ m) → Lib.lens ys ≤ ys.length * m := fun ys => by
      induction ys with
      | nil => intro _; simp [Lib.lens]
      | cons y ys ih =>
        intro hy
        have h1 := ih fun z hz => hy z (List.mem_cons_of_mem _ hz)
        have h2 := hy y (List.mem_cons_self ..)
        have e : Lib.lens (y :: ys) = y.length + Lib.lens ys := by simp [Lib.lens]
        rw [e, List.length_cons, Nat.succ_mul]; omega
    have h1 := hl (x :: r) h
    have h2 : sep.length * r.length ≤ (x :: r).length * sep.length := by rw [Nat.mul_comm]; exact Nat.mul_le_mul_right _ (by simp)
    rw [Nat.mul_add]; omega
theorem itoa_len {n : Int} (h : -1000000000 ≤ n ∧ n ≤ 1000000000) : (Lib.itoa n).length ≤ 21 := Lib.itoa_length_le n (by omega) (by omega)
theorem SlStr.own {xs : List (List UInt8)} {w : World} {b : Nat} {t : TypeId} (h : Blk w b t (xs.flatMap encStr)) : Sl encStr 1 w (some ⟨b, 0, none⟩) b 0 xs := by
  refine ⟨fun _ => rfl, fun _ => h.lt, fun i hi => ?_⟩
  intro j v hv
  have hj : j = 0 := by
    have := (List.getElem?_eq_some_iff.1 hv).1
    simp [encStr] at this; exact this
  subst hj
  have hv : v = .string (strB (nth xs i)) := by simpa [encStr] using hv.symm
  subst hv
  refine h.get ?_
  rw [Nat.zero_add, Nat.mul_one, Nat.add_zero]
  have e : xs.flatMap encStr = xs.map (fun x => Value.string (strB x)) := by
    clear h hv hi
    induction xs with
    | nil => rfl
    | cons x xs ih => rw [List.flatMap_cons, List.map_cons, ih]; rfl
  rw [e, List.getElem?_map, List.getElem?_eq_getElem hi, nth_eq hi]; rfl
theorem sealed_c (ws : List (List UInt8)) (ao : Option Addr) (b o cap : Nat) (w0 : World) (hs : Sl encStr 1 w0 ao b o ws) (hcap : ws.length ≤ cap) (hwl : ws.length ≤ 1000) (hjl : (Lib.join ws [32]).length ≤ 90000) :
    CallsV Tryz.prog 148 [.slice ao ws.length cap] w0 (fun v w' => v = .string (strB (sealedP ws)) ∧ Ext w0 w') := by
 have hwr := weighP_r (Lib.join ws [32] ++ [32])
 have hsl9 : (Lib.join ws [32] ++ [32]).length = (Lib.join ws [32]).length + 1 := by simp
 refine f_n func148 ?_
 refine go ?_
 refine x_c func187 rfl rfl (join_c ws ([32]) ao b o cap _ hs hcap (by omega) (by omega)) ?_
 rintro _ w4 ⟨rfl, u5⟩ zu5
 refine t_bo (Bo.addS (by simp only [List.length_cons, List.length_nil]; omega)) rfl rfl rfl rfl ?_
 refine go ?_
 refine t_toB underlying9 underlying24 underlying5 rfl rfl rfl (fun bk9 cp10 w11 ebk9 sbk9 B12 u13 => ?_)
 refine x_c func125 rfl rfl (weigh_c ((Lib.join ws ([32])) ++ [32]) (some ⟨bk9, 0, none⟩) bk9 0 cp10 673 _ (B12.sl) (by omega) (by decide)) ?_
 rintro _ w16 ⟨rfl, u17⟩ zu17
 refine go ?_
 refine t_quo rfl rfl rfl rfl (by omega) (by omega) ?_
 refine go ?_
 refine t_conv underlying3 underlying21 rfl rfl rfl (IntWalk.i32_in _ (by omega)) (t_same 15 (v := .int .i32 ((97 + weighP (Lib.join ws [32] ++ [32]) 673 / 26).toNat : Int)) rfl (congrArg (Value.int .i32) (by omega)) (t_ofRune ((97 + weighP (Lib.join ws [32] ++ [32]) 673 / 26).toNat) (by kernel_rfl) underlying9 rfl rfl rfl rfl (by omega) (t_bo (Bo.addS (by simp only [List.length_append, List.length_cons, List.length_nil]; omega)) rfl rfl rfl rfl ?_)))
 refine go ?_
 refine t_rem rfl rfl rfl rfl (by omega) (by omega) ?_
 refine go ?_
 refine t_conv underlying3 underlying21 rfl rfl rfl (IntWalk.i32_in _ (by omega)) (t_same 21 (v := .int .i32 ((97 + weighP (Lib.join ws [32] ++ [32]) 673 % 26).toNat : Int)) rfl (congrArg (Value.int .i32) (by omega)) (t_ofRune ((97 + weighP (Lib.join ws [32] ++ [32]) 673 % 26).toNat) (by kernel_rfl) underlying9 rfl rfl rfl rfl (by omega) (t_bo (Bo.addS (by simp only [List.length_append, List.length_cons, List.length_nil]; omega)) rfl rfl rfl rfl (t_bo (Bo.addS (by simp only [List.length_append, List.length_cons, List.length_nil]; omega)) rfl rfl rfl rfl ?_))))
 refine go ?_
 refine f_1 results148 ?_
 exact ⟨rfl, u_d⟩

end Go.Proofs.YtagmkfbbhfaceaaGreatDoor
namespace Go.Proofs.YtagmkfbbhfaceaaGreatDoor
open Go Go.RowKit
set_option maxRecDepth 10000
end Go.Proofs.YtagmkfbbhfaceaaGreatDoor
namespace Go.Proofs.YtagmkfbbhfaceaaGreatDoor
open Go Go.RowKit
set_option maxRecDepth 10000
theorem BuiM.new {w : World} {b : Nat} (h : Blk w b 214 [.pointer none, .slice none 0 0]) : BuiM b b [] w :=
  .inl ⟨Nat.le_refl _, .slice none 0 0, by unfold Blk at h; simpa using h, ⟨rfl, .inl ⟨rfl, rfl⟩⟩, by simp [Value.ownBlock]⟩
theorem BuiM.ext {B b : Nat} {l : List UInt8} {w w' : World} (h : BuiM B b l w) (u : Ext w w') : BuiM B b l w' := by
  have key : ∀ p, Lib.BuilderAt 214 5 B b p (Lib.byteCells l) w → Lib.BuilderAt 214 5 B b p (Lib.byteCells l) w' := fun p hp => by
    obtain ⟨h1, v, h2, ⟨h3, h4⟩, h5⟩ := hp
    refine ⟨h1, v, (u.block b (lt_of_block h2) id).trans h2, ⟨h3, ?_⟩, h5⟩
    rcases h4 with h4 | ⟨g, cap, cur, e1, e2, e3, e4⟩
    · exact .inl h4
    · exact .inr ⟨g, cap, cur, e1, e2, (u.block g (lt_of_block e3) id).trans e3, e4⟩
  rcases h with h | h
  · exact .inl (key _ h)
  · exact .inr (key _ h)
end Go.Proofs.YtagmkfbbhfaceaaGreatDoor
namespace Go.Proofs.YtagmkfbbhfaceaaGreatDoor
open Go Go.RowKit Go.Proofs.Tryz
set_option maxRecDepth 10000
theorem Sl.ofBlk {α : Type} [Inhabited α] {enc : α → List Value} {k : Nat} (hk : ∀ x, (enc x).length = k) {w : World} {b : Nat} {t : TypeId} {xs : List α} (h : Blk w b t (xs.flatMap enc)) : Sl enc k w (some ⟨b, 0, none⟩) b 0 xs :=
  ⟨fun _ => rfl, fun _ => h.lt, fun i hi j v hv => by
    have h1 := flatMap_at hk xs i j v hi hv
    rw [Nat.zero_add]
    exact h.get h1⟩
/-! ### The document's examples -/
def knE1 : List Ent := [⟨2, 1, 1, 3, 0, 0⟩]
theorem kn_log1 : chkE knE1 = 0 := by kernel_rfl
theorem kn_log2 : (logP knE1).length = 64 ∧ nth (logP knE1) 0 = 142 ∧ nth (logP knE1) 1 = 64 ∧ nth (logP knE1) 30 = 1 ∧ nth (logP knE1) 31 = 14 ∧ nth (logP knE1) 62 = 4 ∧ nth (logP knE1) 63 = 223 := ⟨by kernel_rfl, by kernel_rfl, by kernel_rfl, by kernel_rfl, by kernel_rfl, by kernel_rfl, by kernel_rfl⟩
theorem knLog_c (b : Nat) (w0 : World) (hB : Blk w0 b 41 [.int .i64 2, .int .i64 1, .int .i64 1, .int .i64 3, .int .i64 0, .int .i64 0]) : CallsV Tryz.prog 9 [.slice (some ⟨b, 0, none⟩) 1 1] w0 fun v w' => (∃ a9 g9 c9, v = .tuple #[.slice a9 64 c9, .int .i64 0] ∧ Acc encY 1 5 w0.heap.size w' a9 g9 c9 (logP knE1)) ∧ Ext w0 w' := by
  have h := WriteLog_c knE1 (some ⟨b, 0, none⟩) b 0 1 w0 (Sl.ofBlk (enc := encEnt) (k := 6) (xs := knE1) (fun _ => rfl) hB) (by decide) (by have := hB.lt; omega)
  rw [kn_log1, kn_log2.1] at h
  exact h
end Go.Proofs.YtagmkfbbhfaceaaGreatDoor
namespace Go.Proofs.YtagmkfbbhfaceaaGreatDoor
open Go Go.RowKit
/-- How keys and values of a map are laid. -/
structure Cod (α β : Type) where
  k : α → Value
  v : β → Value
def kvG {α β : Type} (c : Cod α β) (p : α × β) : Value × Value := (c.k p.1, c.v p.2)
/-- In block r lies a map with these keys and values. -/
def MapG {α β : Type} (cd : Cod α β) (m : List (α × β)) (w : World) (r : Nat) : Prop := ∃ es c, w.heap[r]? = some (.map es c) ∧ es.toList.map (fun e => (e.key, e.val)) = m.map (kvG cd) ∧ (∀ e ∈ es.toList, e.born < c) ∧ (es.toList.map (·.born)).Nodup
section
variable {α β : Type} {cd : Cod α β}
theorem MapG.lt {m : List (α × β)} {w : World} {r : Nat} (h : MapG cd m w r) : r < w.heap.size := by obtain ⟨es, c, h, _⟩ := h; exact lt_of_block h
theorem MapG.keep {m : List (α × β)} {w w' : World} {r : Nat} {S : Nat → Prop} (h : MapG cd m w r) (u : Upd S w w') (hn : ¬ S r) : MapG cd m w' r := by
  obtain ⟨es, c, h1, h2⟩ := h
  exact ⟨es, c, (u.block r (lt_of_block h1) hn).trans h1, h2⟩
theorem MapG.ne {m : List (α × β)} {w : World} {r b : Nat} {c : Array Value} {t : TypeId} {f : Nat × Nat} (h : MapG cd m w r) (hb : w.heap[b]? = some (.cells c t f)) : r ≠ b := fun e => by
  obtain ⟨es, c, h1, _⟩ := h
  subst e; rw [h1] at hb; cases hb
theorem MapG.ofMemo {w : World} {r : Nat} (h : ∀ F, Memo F w r) : MapG cd [] w r := by
  obtain ⟨es, c, h1, h2⟩ := h (fun _ _ _ => False)
  have he : es.toList = [] := by
    cases he : es.toList with
    | nil => rfl
    | cons e l => obtain ⟨_, _, _, hf⟩ := h2 e (by rw [he]; simp); exact hf.elim
  exact ⟨es, c, h1, by rw [he]; rfl, by rw [he]; simp, by rw [he]; simp⟩
end
/-- Where a key stands, and its value. -/
def fG {α β : Type} [DecidableEq α] : List (α × β) → α → Nat → Option (Nat × β)
  | [], _, _ => none
  | p :: m, a, i => if a = p.1 then some (i, p.2) else fG m a (i + 1)
def gtG {α β : Type} [DecidableEq α] (m : List (α × β)) (a : α) : Option β := (fG m a 0).map (·.2)
def upG {α β : Type} [DecidableEq α] (m : List (α × β)) (a : α) (v : β) : List (α × β) := match fG m a 0 with
  | none => m ++ [(a, v)]
  | some p => m.set p.1 (a, v)
/-- What the key's type must know: whether two keys are one. -/
structure KeyOK (P : Program) (K : TypeId) {α β : Type} [DecidableEq α] (cd : Cod α β) : Prop where
  find : ∀ (m : List (α × β)) (es : List MapEntry) (a : α) (w : World), es.map (fun e => (e.key, e.val)) = m.map (kvG cd) → (Instr.findKey K (cd.k a) es).run P w = .ok ((fG m a 0).map fun p => (p.1, cd.v p.2)) w
  check : ∀ (em : Bool) (a : α) (w : World), (Instr.checkKey em 10000 K (cd.k a)).run P w = .ok () w
  stays : ∀ (a : α) (w : World), (Instr.keyThatStays (cd.k a) (cd.k a)).run P w = .ok (cd.k a) w
section
variable {α β : Type} [DecidableEq α] {cd : Cod α β}
theorem fG_at : ∀ (m : List (α × β)) (a : α) (i : Nat) {j : Nat} {v : β}, fG m a i = some (j, v) → i ≤ j ∧ m[j - i]? = some (a, v)
  | [], _, _, _, _, h => by cases h
  | p :: m, a, i, j, v, h => by
    unfold fG at h
    split at h
    · rename_i e
      simp only [Option.some.injEq, Prod.mk.injEq] at h
      obtain ⟨rfl, rfl⟩ := h
      refine ⟨Nat.le_refl _, ?_⟩
      rw [Nat.sub_self, e]; rfl
    · have := fG_at m a (i + 1) h
      refine ⟨by omega, ?_⟩
      rw [show j - i = (j - (i + 1)) + 1 by omega]
      simpa using this.2
end
section
variable {P : Program} {α β : Type} [DecidableEq α]
theorem findNowG {v : β → Value} {a : Int} : ∀ (m : List (Int × β)) (es : List MapEntry) (i : Nat), es.map (fun e => (e.key, e.val)) = m.map (kvG ⟨.int .i64, v⟩) → Instr.findNow (.int .i64) (.int .i64 a) es i = some ((fG m a i).map fun p => (p.1, v p.2))
  | [], [], i, _ => rfl
  | [], _ :: _, _, h => by simp at h
  | _ :: _, [], _, h => by simp at h
  | p :: m, e :: es, i, h => by
    simp only [List.map_cons, List.cons.injEq, kvG, Prod.mk.injEq] at h
    obtain ⟨⟨hk, hv⟩, h⟩ := h
    have ih := findNowG (a := a) m es (i + 1) h
    by_cases q : a = p.1
    · simp [Instr.findNow, hk, hv, Instr.sameNow, fG, q]
    · have hs : Instr.sameNow (.int .i64) (.int .i64 a) e.key = some false := by rw [hk]; simp [Instr.sameNow, q]
      rw [Instr.findNow, hs]
      simp only [fG, if_neg q]
      exact ih
theorem checkKeyN {K : TypeId} (hK : P.underlying K = some (.int .i64)) (em : Bool) (n : Nat) (a : Int) (w : World) : (Instr.checkKey em (n + 1) K (.int .i64 a)).run P w = .ok () w := by
  simp [Instr.checkKey, run_underlying hK]
theorem KeyOK.int {K : TypeId} (hK : P.underlying K = some (.int .i64)) (v : β → Value) : KeyOK P K (⟨.int .i64, v⟩ : Cod Int β) :=
  ⟨fun m es a w h => by simp [Instr.findKey, run_underlying hK, findNowG m es 0 h], fun em a w => checkKeyN hK em 9999 a w, fun a w => by simp [Instr.keyThatStays, Instr.sameBits]⟩
theorem askG {cd : Cod α β} {K : TypeId} (he : ∀ a b w, (Op.equal K (cd.k a) (cd.k b)).run P w = .ok (decide (a = b)) w) (a : α) (w : World) : ∀ (m : List (α × β)) (es : List MapEntry) (i : Nat), es.map (fun e => (e.key, e.val)) = m.map (kvG cd) →
    (Instr.findAsking K (cd.k a) es i).run P w = .ok ((fG m a i).map fun p => (p.1, cd.v p.2)) w
  | [], [], i, _ => by simp [Instr.findAsking, fG]
  | [], _ :: _, _, h => by simp at h
  | _ :: _, [], _, h => by simp at h
  | p :: m, e :: es, i, h => by
    simp only [List.map_cons, List.cons.injEq, kvG, Prod.mk.injEq] at h
    obtain ⟨⟨hk, hv⟩, h⟩ := h
    have ih := askG he a w m es (i + 1) h
    simp only [Instr.findAsking, Sem.run_bind, hk, he, Result.andThen_ok]
    by_cases q : a = p.1
    · simp [fG, q, hv]
    · simp only [fG, if_neg q, decide_eq_false q]
      simpa using ih
theorem KeyOK.str {cd : Cod α β} {K : TypeId} {fs : Array Field} (hu : P.underlying K = some (.struct fs)) (he : ∀ a b w, (Op.equal K (cd.k a) (cd.k b)).run P w = .ok (decide (a = b)) w)
    (hc : ∀ (em : Bool) (a : α) (w : World), (Instr.checkKey em 10000 K (cd.k a)).run P w = .ok () w) (hs : ∀ (a : α) (w : World), (Instr.keyThatStays (cd.k a) (cd.k a)).run P w = .ok (cd.k a) w) : KeyOK P K cd :=
  ⟨fun m es a w h => by
    cases m with
    | nil =>
      have : es = [] := by simpa using h
      subst this
      simp [Instr.findKey, run_underlying hu, Instr.findNow, fG]
    | cons p m =>
      cases es with
      | nil => simp at h
      | cons e es =>
        have ha := askG he a w (p :: m) (e :: es) 0 h
        simp only [Instr.findKey, Sem.run_bind, run_underlying hu, Result.andThen_ok, Instr.findNow, Instr.sameNow]
        exact ha, hc, hs⟩
end
section steps
variable {rd : Option Nat} {P : Program} {ops : Array Oper} {Q : Exit → Act → World → Prop} {N : Nat} {ds : List Deferred} {rest : List Oper} {L : Slots} {w : World}
variable {α β : Type} [DecidableEq α] {cd : Cod α β}
variable {d : Nat} {ty : TypeId} {pos : String} {aft : Array Edge} {g : Option (Nat × Bool)}
/-- m[a], and whether it is there. -/
theorem t_lookG {T K E : TypeId} {x i : Operand} {r : Nat} {a : α} {z : Value} {m : List (α × β)} (hK : KeyOK P K cd) (hu : P.underlying T = some (.map K E)) (hz : ∀ w, (zeroValue E).run P w = .ok z w)
    (hg : grd ops L g = true) (hN : Nat.blt d N = true) (hx : ev L x = some (.map (some r))) (hi : ev L i = some (cd.k a)) (hm : MapG cd m w r)
    (h0 : gtG m a = none → WL rd P ops Q N ds rest ((d, .tuple #[z, .bool false]) :: L) w) (h1 : ∀ v, gtG m a = some v → WL rd P ops Q N ds rest ((d, .tuple #[cd.v v, .bool true]) :: L) w) : WL rd P ops Q N ds (⟨some d, .lookup T x i true, ty, pos, aft, g⟩ :: rest) L w := by
  obtain ⟨es, c, q1, q2, _⟩ := hm
  have hgo : (getObj r).run P w = .ok (.map es c) w := by simp [getObj, Sem.run, q1]
  have hj := fun w => hK.find m es.toList a w q2
  unfold gtG at h0 h1
  cases hf : fG m a 0 with
  | none =>
    rw [hf] at h0 hj
    refine WL.value hg rfl hN (fun a hk => ?_) (h0 rfl)
    simp only [execOp, hk.ev hx, hk.ev hi]
    simp [Instr.lookup, run_underlying hu, hgo, hK.check, hj, hz]
  | some p =>
    rw [hf] at h1 hj
    refine WL.value hg rfl hN (fun a hk => ?_) (h1 p.2 rfl)
    simp only [execOp, hk.ev hx, hk.ev hi]
    simp [Instr.lookup, run_underlying hu, hgo, hK.check, hj]
/-- m[a]. -/
theorem t_getG {T K E : TypeId} {x i : Operand} {r : Nat} {a : α} {z : Value} {m : List (α × β)} (hK : KeyOK P K cd) (hu : P.underlying T = some (.map K E)) (hz : ∀ w, (zeroValue E).run P w = .ok z w)
    (hg : grd ops L g = true) (hN : Nat.blt d N = true) (hx : ev L x = some (.map (some r))) (hi : ev L i = some (cd.k a)) (hm : MapG cd m w r)
    (h : WL rd P ops Q N ds rest ((d, match gtG m a with | some v => cd.v v | none => z) :: L) w) : WL rd P ops Q N ds (⟨some d, .lookup T x i false, ty, pos, aft, g⟩ :: rest) L w := by
  obtain ⟨es, c, q1, q2, _⟩ := hm
  have hgo : (getObj r).run P w = .ok (.map es c) w := by simp [getObj, Sem.run, q1]
  have hj := fun w => hK.find m es.toList a w q2
  unfold gtG at h
  cases hf : fG m a 0 with
  | none =>
    rw [hf] at h hj
    refine WL.value hg rfl hN (fun a hk => ?_) h
    simp only [execOp, hk.ev hx, hk.ev hi]
    simp [Instr.lookup, run_underlying hu, hgo, hK.check, hj, hz]
  | some p =>
    rw [hf] at h hj
    refine WL.value hg rfl hN (fun a hk => ?_) h
    simp only [execOp, hk.ev hx, hk.ev hi]
    simp [Instr.lookup, run_underlying hu, hgo, hK.check, hj]
/-- m[a] = v. -/
theorem t_mapG {T K E : TypeId} {x i y : Operand} {r : Nat} {a : α} {v : β} {m : List (α × β)} (hK : KeyOK P K cd) (hu : P.underlying T = some (.map K E))
    (hg : grd ops L g = true) (hx : ev L x = some (.map (some r))) (hi : ev L i = some (cd.k a)) (hy : ev L y = some (cd.v v)) (hm : MapG cd m w r)
    (h : ∀ w', w'.heap.size = w.heap.size → MapG cd (upG m a v) w' r → Upd (· = r) w w' → WL rd P ops Q N ds rest L w') : WL rd P ops Q N ds (⟨none, .mapUpdate T x i y, ty, pos, aft, g⟩ :: rest) L w := by
  obtain ⟨es, c, h1, h2, h3, h4⟩ := hm
  have hlt := lt_of_block h1
  have hgo : (getObj r).run P w = .ok (.map es c) w := by simp [getObj, Sem.run, h1]
  have hset : ∀ o, (setObj r o).run P w = .ok () { w with heap := w.heap.setIfInBounds r o } := fun o => by simp [setObj, Sem.run, h1]
  have hupd : ∀ o, Upd (· = r) w { w with heap := w.heap.setIfInBounds r o } := fun o => ⟨rfl, rfl, rfl, by simp, fun k hk hn => by simp [Array.getElem?_setIfInBounds_ne (show r ≠ k from fun e => hn e.symm)]⟩
  have hj := fun w => hK.find m es.toList a w h2
  unfold upG at h
  cases hf : fG m a 0 with
  | none =>
    rw [hf] at h hj
    refine WL.effect (w' := { w with heap := w.heap.setIfInBounds r (.map (es.push { key := cd.k a, val := cd.v v, born := c }) (c + 1)) }) hg rfl (fun ac hk => ?_) (h _ (by simp) ⟨_, _, by simp [hlt]; exact ⟨rfl, rfl⟩, ?_, ?_, ?_⟩ (hupd _))
    · simp only [execOp, hk.ev hx, hk.ev hi, hk.ev hy]
      simp [Instr.mapUpdate, run_underlying hu, hgo, hK.check, hj, hset]
    · rw [Array.toList_push, List.map_append, h2, List.map_append]; rfl
    · intro e he
      rw [Array.toList_push] at he
      rcases List.mem_append.1 he with he | he
      · have := h3 e he; omega
      · rw [List.mem_singleton.1 he]; exact Nat.lt_succ_self c
    · rw [Array.toList_push, List.map_append, List.nodup_append]
      refine ⟨h4, by simp, fun x hx y hy e => ?_⟩
      obtain ⟨q, hq, rfl⟩ := List.mem_map.1 hx
      have h5 := h3 q hq
      simp at hy
      omega
  | some p =>
    obtain ⟨j, u⟩ := p
    rw [hf] at h hj
    simp only [] at h
    have hmod : ∀ (q : Nat), (es.toList.modify j fun e => { e with key := cd.k a, val := cd.v v })[q]? = if j = q then (es.toList[q]?).map (fun e => { e with key := cd.k a, val := cd.v v }) else es.toList[q]? := fun q => by
      rw [List.getElem?_modify]
      by_cases hq : j = q
      · simp [hq]
      · simp [hq]
    have hat := fG_at m a 0 hf
    rw [Nat.sub_zero] at hat
    have hjl : j < es.toList.length := by
      have h6 := congrArg List.length h2
      rw [List.length_map, List.length_map] at h6
      have := (List.getElem?_eq_some_iff.1 hat.2).1
      omega
    have hjs : j < es.size := by simpa using hjl
    have hek : (es[j]?).map (·.key) = some (cd.k a) := by
      have h7 : (es.toList.map (fun e => (e.key, e.val)))[j]? = (m.map (kvG cd))[j]? := by rw [h2]
      rw [List.getElem?_map, List.getElem?_map, hat.2] at h7
      rw [Array.getElem?_toList] at h7
      cases he : es[j]? with
      | none => rw [he] at h7; cases h7
      | some e => rw [he] at h7; simp [kvG] at h7; simp [h7.1]
    have hkey : ((es[j]?).map (·.key)).getD (cd.k a) = cd.k a := by rw [hek]; rfl
    have hsame := fun w => hK.stays a w
    have hml : (es.modify j fun e => { e with key := cd.k a, val := cd.v v }).toList = es.toList.modify j fun e => { e with key := cd.k a, val := cd.v v } := by simp
    refine WL.effect (w' := { w with heap := w.heap.setIfInBounds r (.map (es.modify j fun e => { e with key := cd.k a, val := cd.v v }) c) }) hg rfl (fun ac hk => ?_) (h _ (by simp) ⟨_, _, by simp [hlt]; exact ⟨rfl, rfl⟩, ?_, ?_, ?_⟩ (hupd _))
    · simp only [execOp, hk.ev hx, hk.ev hi, hk.ev hy]
      simp only [Instr.mapUpdate]
      simp [run_underlying hu, hgo, hK.check, hj, hset, hkey, hsame]
    · rw [hml]
      refine List.ext_getElem? fun q => ?_
      rw [List.getElem?_map, hmod, List.getElem?_map]
      have h7 : (es.toList.map (fun e => (e.key, e.val)))[q]? = (m.map (kvG cd))[q]? := by rw [h2]
      rw [List.getElem?_map, List.getElem?_map] at h7
      by_cases hq : j = q
      · subst hq
        rw [if_pos rfl, List.getElem?_set_self (by rw [← List.length_map (f := kvG cd), ← h2, List.length_map]; exact hjl), List.getElem?_eq_getElem hjl]; rfl
      · rw [if_neg hq, List.getElem?_set_ne hq]
        cases he : es.toList[q]? with
        | none => rw [he] at h7; simpa using h7
        | some e => rw [he] at h7; simpa using h7
    · intro e he
      rw [hml] at he
      obtain ⟨q, hq⟩ := List.getElem?_of_mem he
      rw [hmod] at hq
      cases h8 : es.toList[q]? with
      | none => rw [h8] at hq; simp at hq
      | some e0 =>
        rw [h8] at hq
        have h9 := h3 e0 (List.mem_of_getElem? h8)
        split at hq
        · simp only [Option.map_some, Option.some.injEq] at hq; subst hq; exact h9
        · simp only [Option.some.injEq] at hq; subst hq; exact h9
    · have hb : (es.modify j fun e => { e with key := cd.k a, val := cd.v v }).toList.map (·.born) = es.toList.map (·.born) := by
        rw [hml]
        refine List.ext_getElem? fun q => ?_
        rw [List.getElem?_map, hmod, List.getElem?_map]
        split
        · cases es.toList[q]? <;> rfl
        · rfl
      rw [hb]; exact h4
end steps
section steps2
variable {rd : Option Nat} {P : Program} {ops : Array Oper} {Q : Exit → Act → World → Prop} {N : Nat} {ds : List Deferred} {rest : List Oper} {L : Slots} {w : World}
variable {α β : Type} {cd : Cod α β}
variable {d : Nat} {ty : TypeId} {pos : String} {aft : Array Edge} {g : Option (Nat × Bool)}
/-- A range over the map in block r is under way, its iterator lies in block it; these entries are to come. -/
def ItG {α β : Type} (cd : Cod α β) (m left : List (α × β)) (w : World) (r it : Nat) : Prop := ∃ es c since seen c0, w.heap[r]? = some (.map es c) ∧ es.toList.map (fun e => (e.key, e.val)) = m.map (kvG cd) ∧ (es.toList.map (·.born)).Nodup ∧ w.heap[it]? = some (.mapIter (some r) since seen c0) ∧ (∀ e ∈ es.toList, e.born < since) ∧ since ≤ c0 ∧ since ≤ c ∧ (leftOf es seen).toList.map (fun e => (e.key, e.val)) = left.map (kvG cd)
/-- The same, and this entry has just come. -/
def ItH {α β : Type} (cd : Cod α β) (m left : List (α × β)) (p : α × β) (w : World) (r it : Nat) : Prop := ItG cd m left w r it ∧ ∃ (es : Array MapEntry) (c since : Nat) (seen : Array Nat) (e : MapEntry), w.heap[r]? = some (.map es c) ∧ w.heap[it]? = some (.mapIter (some r) since (seen.push e.born) c) ∧ e ∈ es.toList ∧ (es.toList.map (·.born)).Nodup ∧ (e.key, e.val) = (kvG cd) p
theorem ItG.keep {m left : List (α × β)} {w w' : World} {r it : Nat} {S : Nat → Prop} (h : ItG cd m left w r it) (u : Upd S w w') (h1 : ¬ S r) (h2 : ¬ S it) : ItG cd m left w' r it := by
  obtain ⟨es, c, since, seen, c0, q1, q2, q3, q4, q5⟩ := h
  exact ⟨es, c, since, seen, c0, (u.block r (lt_of_block q1) h1).trans q1, q2, q3, (u.block it (lt_of_block q4) h2).trans q4, q5⟩
theorem ItG.same {m left : List (α × β)} {w w' : World} {r it : Nat} (h : ItG cd m left w r it) (h1 : w'.heap[r]? = w.heap[r]?) (h2 : w'.heap[it]? = w.heap[it]?) : ItG cd m left w' r it := by
  obtain ⟨es, c, since, seen, c0, q1, q2, q3, q4, q5⟩ := h
  exact ⟨es, c, since, seen, c0, h1.trans q1, q2, q3, h2.trans q4, q5⟩
theorem ItG.map {m left : List (α × β)} {w : World} {r it : Nat} (h : ItG cd m left w r it) : ∃ a b, w.heap[r]? = some (.map a b) := by obtain ⟨es, c, since, seen, c0, q1, q2, q3, q4, q5⟩ := h; exact ⟨_, _, q1⟩
theorem t_rangeG {T K E : TypeId} {x : Operand} {r : Nat} {m : List (α × β)} (hu : P.underlying T = some (.map K E)) (hg : grd ops L g = true) (hN : Nat.blt d N = true) (hx : ev L x = some (.map (some r))) (hm : MapG cd m w r)
    (h : ∀ it w', it = w.heap.size → w'.heap.size = w.heap.size + 1 → ItG cd m m w' r it → Ext w w' → WL rd P ops Q N ds rest ((d, .pointer (some ⟨it, 0, none⟩)) :: L) w') : WL rd P ops Q N ds (⟨some d, .range T x, ty, pos, aft, g⟩ :: rest) L w := by
  obtain ⟨es, c, h1, h2, h3, h4⟩ := hm
  have hlt := lt_of_block h1
  refine WL.value hg rfl hN (fun a hk => ?_) (h w.heap.size _ rfl (by simp) ⟨es, c, c, #[], c, (Below.heap_alloc _ _ _ hlt).trans h1, h2, h4, heap_alloc_new _ _, h3, Nat.le_refl _, Nat.le_refl _, by rw [show leftOf es #[] = es by simp [leftOf]]; exact h2⟩ (Upd.alloc _ _))
  simp only [execOp, hk.ev hx]
  simp [run_range_map w T K E r es c hu h1]
theorem filter_cut {l : List MapEntry} {e : MapEntry} (hn : (l.map (·.born)).Nodup) {p : MapEntry → Bool} (he : e ∈ l.filter p) : ∃ l1 l2, l.filter p = l1 ++ e :: l2 ∧ l.filter (fun x => p x && !(x.born == e.born)) = l1 ++ l2 := by
  obtain ⟨l1, l2, h⟩ := List.append_of_mem he
  refine ⟨l1, l2, h, ?_⟩
  have hn2 : ((l.filter p).map (·.born)).Nodup := hn.sublist (List.Sublist.map _ List.filter_sublist)
  have hff : l.filter (fun x => p x && !(x.born == e.born)) = (l.filter p).filter (fun x => !(x.born == e.born)) := by
    rw [List.filter_filter]
    congr 1
    funext x
    exact Bool.and_comm _ _
  rw [hff, h]
  rw [h, List.map_append, List.map_cons, List.nodup_append] at hn2
  obtain ⟨n1, n2, n3⟩ := hn2
  rw [List.nodup_cons] at n2
  rw [List.filter_append, List.filter_cons]
  have f1 : l1.filter (fun x => !(x.born == e.born)) = l1 := by
    rw [List.filter_eq_self]
    intro x hx
    have := n3 x.born (List.mem_map.2 ⟨x, hx, rfl⟩) e.born (by simp)
    simpa using this
  have f2 : l2.filter (fun x => !(x.born == e.born)) = l2 := by
    rw [List.filter_eq_self]
    intro x hx
    have : x.born ≠ e.born := fun q => n2.1 (by rw [← q]; exact List.mem_map.2 ⟨x, hx, rfl⟩)
    simpa using this
  simp [f1, f2]
theorem t_nextG {x : Operand} {r it : Nat} {m left : List (α × β)} (hg : grd ops L g = true) (hN : Nat.blt d N = true) (hx : ev L x = some (.pointer (some ⟨it, 0, none⟩))) (hm : ItG cd m left w r it)
    (h0 : left = [] → WL rd P ops Q N ds rest ((d, .tuple #[.bool false]) :: L) w)
    (h1 : ∀ l1 p l2 w', left = l1 ++ p :: l2 → w'.heap.size = w.heap.size → ItH cd m (l1 ++ l2) p w' r it → Upd (· = it) w w' → WL rd P ops Q N ds rest ((d, .tuple #[.bool true, cd.k p.1, cd.v p.2]) :: L) w') : WL rd P ops Q N ds (⟨some d, .next x false, ty, pos, aft, g⟩ :: rest) L w := by
  obtain ⟨es, c, since, seen, c0, q1, q2, q3, q4, q5, q6, q7, q8⟩ := hm
  have hex : ∀ a, Kn N ds L a → execOp a.eval ⟨some d, .next x false, ty, pos, aft, g⟩ = (do let v ← Instr.next (.pointer (some ⟨it, 0, none⟩)) false ty; pure (.value v)) := fun a hk => by
    simp only [execOp, hk.ev hx]
  rcases run_next_at (P := P) w ty it r since c0 seen es c q4 q1 q5 q6 with ⟨s0, hrun⟩ | ⟨e, he, w1, hal, hrun⟩
  · have hl : left = [] := by
      have : (leftOf es seen).toList = [] := by
        have := Array.eq_empty_of_size_eq_zero s0
        rw [this]
      rw [this] at q8
      simpa using q8.symm
    refine WL.value hg rfl hN (fun a hk => ?_) (h0 hl)
    rw [hex a hk]; simp [hrun]
  · have hlf : (leftOf es seen).toList = es.toList.filter fun e => !seen.contains e.born := by simp [leftOf]
    rw [hlf] at he q8
    obtain ⟨l1, l2, c1, c2⟩ := filter_cut q3 he
    have hem : e ∈ es.toList := (List.mem_filter.1 he).1
    rw [c1, List.map_append, List.map_cons] at q8
    obtain ⟨m1, m', e1, e2, e3⟩ := List.map_eq_append_iff.1 q8.symm
    obtain ⟨p, m2, e4, e5, e6⟩ := List.map_eq_cons_iff.1 e3
    have hr1 : w1.heap[it]? = some (.mapIter (some r) since seen c0) := by rcases hal with rfl | rfl <;> exact q4
    have hb1 : w1.heap[r]? = some (.map es c) := by rcases hal with rfl | rfl <;> exact q1
    have hne : r ≠ it := fun q => by rw [q, q4] at q1; cases q1
    have hset : (ChangeMaps.setBlock w1 it (.mapIter (some r) since (seen.push e.born) c)).heap[it]? = some (.mapIter (some r) since (seen.push e.born) c) ∧ ∀ k, k ≠ it → (ChangeMaps.setBlock w1 it (.mapIter (some r) since (seen.push e.born) c)).heap[k]? = w1.heap[k]? := MapKept.heap_set hr1
    have hb2 := (hset.2 r hne).trans hb1
    have hup : Upd (· = it) w (ChangeMaps.setBlock w1 it (.mapIter (some r) since (seen.push e.born) c)) := by
      rcases hal with rfl | rfl <;> exact ⟨rfl, rfl, rfl, by simp [ChangeMaps.setBlock], fun k _ hn => hset.2 k hn⟩
    have hsz : (ChangeMaps.setBlock w1 it (.mapIter (some r) since (seen.push e.born) c)).heap.size = w.heap.size := by rcases hal with rfl | rfl <;> simp [ChangeMaps.setBlock]
    have hl2 : (leftOf es (seen.push e.born)).toList = l1 ++ l2 := by
      rw [← c2]
      simp only [leftOf, Array.toList_filter]
      congr 1
      funext x
      rw [contains_push]
      cases seen.contains x.born <;> simp
    have hN1 : ItH cd m (m1 ++ m2) p (ChangeMaps.setBlock w1 it (.mapIter (some r) since (seen.push e.born) c)) r it := by
      refine ⟨⟨es, c, since, seen.push e.born, c, hb2, q2, q3, hset.1, q5, q7, q7, ?_⟩, es, c, since, seen, e, hb2, hset.1, hem, q3, e5.symm⟩
      rw [hl2, List.map_append, List.map_append, e2, e6]
    have hfin := h1 m1 p m2 _ (by rw [e1, e4]) hsz hN1 hup
    refine WL.value hg rfl hN (fun a hk => ?_) hfin
    rw [hex a hk]
    have k1 : e.key = cd.k p.1 := (congrArg Prod.fst e5).symm
    have k2 : e.val = cd.v p.2 := (congrArg Prod.snd e5).symm
    simp [hrun, k1, k2]
theorem t_entryG {x : Operand} {r it : Nat} {m left : List (α × β)} {p : α × β} (hg : grd ops L g = true) (hN : Nat.blt d N = true) (hx : ev L x = some (.pointer (some ⟨it, 0, none⟩))) (hm : ItH cd m left p w r it)
    (h : WL rd P ops Q N ds rest ((d, .tuple #[cd.k p.1, cd.v p.2]) :: L) w) : WL rd P ops Q N ds (⟨some d, .entry x, ty, pos, aft, g⟩ :: rest) L w := by
  obtain ⟨_, es, c, since, seen, e, q1, q2, q3, q4, q5⟩ := hm
  have hr := run_entry_at (P := P) w it r since seen es c e q2 q1 q3 q4
  have k1 : e.key = cd.k p.1 := congrArg Prod.fst q5
  have k2 : e.val = cd.v p.2 := congrArg Prod.snd q5
  rw [k1, k2] at hr
  exact WL.value hg rfl hN (fun a hk => by simp only [execOp, hk.ev hx]; simp [hr]) h
end steps2
end Go.Proofs.YtagmkfbbhfaceaaGreatDoor
