/-
  Part 12 of the proof: contracts and plain laws. Conditions: none.
-/
import Derived.Test.YtjdcpnaocjddoaaGreatDoorRows
import Derived.Handed
import Derived.LaidLaws
import Derived.Lib.LaidTab
import Derived.WalkKit
import Derived.ProofKit
import Derived.OpenShut
import Derived.ShutString
import Derived.ChangeOld
import Derived.Below
import Derived.Test.YtjdcpnaocjddoaaGreatDoorAK11
namespace Go.Proofs.YtjdcpnaocjddoaaGreatDoor
open Go Go.RowKit Go.Proofs.Tryz
def runP (S : Sea) (i : Nat) : List Ent → Int × Nat × Sea
  | [] => (0, 0, S)
  | x :: l => if (stepP S x).1 = 0 then runP { (stepP S x).2 with m := x.m } (i + 1) l else ((stepP S x).1, i, S)
def zSea : Sea := ⟨0, 0, [], [], []⟩
def SG0 : SG := ⟨0, [], none, 0, 0, [], none, 0, 0, [], none, 0, 0, 0⟩
/-- what Replay answers -/
def repP (S : Sea) (l : List Ent) : Int × Nat × Sea := if 2000 < l.length then (5, 0, zSea) else if (runP S 0 l).1 = 0 then (0, 0, (runP S 0 l).2.2) else ((runP S 0 l).1, (runP S 0 l).2.1, zSea)
theorem sl_nil {α : Type} [Inhabited α] {enc : α → List Value} {k : Nat} {w : World} (_h : 0 < w.heap.size) : Sl enc k w none 0 0 [] := ⟨fun hp => absurd hp (Nat.lt_irrefl _), fun hp => absurd hp (Nat.lt_irrefl _), fun _i hi => absurd hi (Nat.not_lt_zero _)⟩
theorem SIn.zero {w : World} (h : 0 < w.heap.size) : SIn w SG0 0 0 0 := ⟨sl_nil h, fun r hr => (by cases hr), sl_nil h, sl_nil h⟩
def SG.num (V : SG) (m wk : Int) : SG := { V with m := m, wk := wk }
theorem SeaM.low {base sb : Nat} {w w' : World} {V : SG} {S : Nat → Prop} (h : SeaM base sb w V) (u : Upd S w w') (hS : ∀ i, S i → i < base) : SeaM base sb w' V :=
  ⟨h.sge, h.blk.keep u (fun hs => by have := hS _ hs; have := h.sge; omega), h.hacc.keep u (fun hb hs => by have := hS _ hs; omega), fun r hr => ⟨(h.cacc r hr).1, (h.cacc r hr).2.keep u (fun hb hs => by have := hS _ hs; omega)⟩, h.lacc.keep u (fun hb hs => by have := hS _ hs; omega), h.uacc.keep u (fun hb hs => by have := hS _ hs; omega), h.lu, h.lr, h.rr⟩
theorem runP_ok {S : Sea} {i : Nat} {x : Ent} {l : List Ent} (h : (stepP S x).1 = 0) : runP S i (x :: l) = runP { (stepP S x).2 with m := x.m } (i + 1) l := by
  show (if (stepP S x).1 = 0 then _ else _) = _
  rw [if_pos h]
set_option maxHeartbeats 4000000 in
theorem Replay_c (l : List Ent) (al : Option Addr) (bl ol cl : Nat) (V : SG) (oh o1 o2 : Nat) (T : Int) (w0 : World) (hl : Sl encEnt 6 w0 al bl ol l) (hll : l.length ≤ 1000000000) (hpos : 0 < w0.heap.size) (hI : SIn w0 V oh o1 o2) (hok : SeaOk T V.st) (hT : T ≤ 500000000) :
    CallsV Tryz.prog 20 [.agg #[.int .i64 V.m, .slice V.ah V.rs.length V.ch, .slice V.al V.ld.length V.cl, .slice V.au V.un.length V.cu, .int .i64 V.wk], .slice al l.length cl] w0 (fun v w' => (∃ V9, v = .tuple #[.agg V9.cells.toArray, .int .i64 ((repP V.st l).2.1 : Int), .int .i64 (repP V.st l).1] ∧ SIn w' V9 0 0 0 ∧ V9.st = (repP V.st l).2.2) ∧ Ext w0 w') := by
 have hT0 := hok.t
 refine f_n func20 ?_
 refine go ?_
 refine x_b fun bk2 w3 ebk2 sbk2 B4 u5 => ?_
 refine x_n fun bk7 w8 ebk7 sbk7 B9 u10 => ?_
 have E11 := Sc.mk (((Upd.refl (fun _ => False) w0).nx u5).nx u10)
 refine go ?_
 refine q_p (fun g13 => ?_) fun g13 => ?_
 ·
  refine go ?_
  refine x_s fun w15 sw15 B17 u16 => ?_
  refine go ?_
  refine f_ret3 (v1 := .agg #[.int .i64 0, .slice none 0 0, .slice none 0 0, .slice none 0 0, .int .i64 0]) (v2 := .int .i64 0) (v3 := .int .i64 5) results20 ⟨_, _, rfl, run_loadVarN (vs := [.int .i64 0, .slice none 0 0, .slice none 0 0, .slice none 0 0, .int .i64 0]) isAgg37 sizeOf37 rfl (B17.at.sub 0 5)⟩ rfl rfl ?_
  have he : repP V.st l = (5, 0, zSea) := by unfold repP; rw [if_pos (by omega)]
  rw [he]
  exact ⟨⟨SG0, rfl, (SIn.zero (by omega)), rfl⟩, u_d⟩
 refine go ?_
 refine x_c func56 rfl rfl (own_c V oh o1 o2 _ (hI.ext E11.u) (by omega) hok.rlen hok.ld.len hok.un.len (fun r hr => (hok.rhul r hr).2.2.1.len)) ?_
 rintro _ w21 ⟨⟨sb, V1, rfl, hM, hst⟩, u22⟩ zu22
 have hsge := hM.sge
 have hsb := hM.blk.lt
 refine go ?_
 refine x_l2 (fun i => w8.heap.size ≤ i) [4, 7, 17, 18] (fun (j : Nat) (Vj : SG) => [(19, .int .i64 (j : Int))]) (fun j Vj w => (j ≤ l.length) ∧ (SeaM w8.heap.size sb w Vj) ∧ (runP V.st 0 l = runP Vj.st j (l.drop j)) ∧ (SeaOk (T + 100000 * (j : Int)) Vj.st)) (fun j Vj => l.length - j) 0 V1 ⟨(Nat.zero_le _), hM, (by rw [hst]; rfl), (by rw [hst]; simpa using hok)⟩ ?_
 rintro j Vj w28 ⟨hj, hMj, hrun, hoj⟩ u29 zu29 K27 hK27
 have hBj : Blk w28 sb 112 [.int .i64 Vj.m, .slice Vj.ah Vj.rs.length Vj.ch, .slice Vj.al Vj.ld.length Vj.cl, .slice Vj.au Vj.un.length Vj.cu, .int .i64 Vj.wk] := hMj.blk
 refine go ?_
 refine q_p (fun g20 => ?_) fun g20 => ?_
 ·
  refine go ?_
  refine g_i j (hl.keep ((E11.u.nx u22).next u29 (fun i hi h => by omega)) (fun _ h => h)) (fun _ => ?_)
  refine go ?_
  refine x_n fun bk36 w37 ebk36 sbk36 B38 u39 => ?_
  refine go ?_
  refine x_s fun w41 sw41 B43 u42 => ?_
  refine go ?_
  refine x_c func57 rfl rfl (step0_c w8.heap.size sb w28.heap.size Vj (T + 100000 * j) (nth l j) _ _ _ (hMj.ext (((Upd.refl (fun _ => False) _).nx u39).next u42 (fun i hi (h : i = bk36) => show False by first | omega | assumption))) hoj hMj.lts (by omega) (by omega) (by omega) rfl rfl) ?_
  rintro _ w48 ⟨⟨V2, rfl, hM2, hst2⟩, u49⟩ zu49
  have hB9 : Blk w48 sb 112 [.int .i64 V2.m, .slice V2.ah V2.rs.length V2.ch, .slice V2.al V2.ld.length V2.cl, .slice V2.au V2.un.length V2.cu, .int .i64 V2.wk] := hM2.blk
  refine go ?_
  refine q_p (fun g28 => ?_) fun g28 => ?_
  ·
   refine go ?_
   refine x_s fun w54 sw54 B56 u55 => ?_
   refine go ?_
   refine f_ret3 (v1 := .agg #[.int .i64 0, .slice none 0 0, .slice none 0 0, .slice none 0 0, .int .i64 0]) (v2 := .int .i64 (j : Int)) (v3 := .int .i64 ((stepP Vj.st (nth l j)).1)) results20 ⟨_, _, rfl, run_loadVarN (vs := [.int .i64 0, .slice none 0 0, .slice none 0 0, .slice none 0 0, .int .i64 0]) isAgg37 sizeOf37 rfl (B56.at.sub 0 5)⟩ rfl rfl ?_
   have hl9 : ¬ 2000 < l.length := by omega
   have hR : runP V.st 0 l = ((stepP Vj.st (nth l j)).1, j, Vj.st) := by rw [hrun, drop_nth (by omega)]; unfold runP; rw [if_neg (by omega)]
   have he : repP V.st l = ((stepP Vj.st (nth l j)).1, j, zSea) := by unfold repP; rw [if_neg hl9, hR, if_neg (by show ¬ (stepP Vj.st (nth l j)).1 = 0; omega)]
   rw [he]
   exact ⟨⟨SG0, rfl, (SIn.zero (by omega)), rfl⟩, u_d⟩
  refine go ?_
  have hM58 := hM2
  refine x_s fun w59 sw59 B61 u60 => ?_
  have hM3 : SeaM w8.heap.size sb w59 (SG.num V2 (nth l j).m V2.wk) := hM58.setB u60 B61
  refine go ?_
  exact hK27 (j + 1) (SG.num V2 (nth l j).m V2.wk) ⟨(by omega), hM3, (by rw [hrun, drop_nth (by omega)]; rw [runP_ok (by omega), ← hst2]; rfl), (by have h9 := SeaOk.step hoj (by omega) (show (stepP Vj.st (nth l j)).1 = 0 by omega); rw [← hst2] at h9; rw [show T + 100000 * ((j + 1 : Nat) : Int) = T + 100000 * (j : Int) + 100000 by omega]; exact h9)⟩
 refine go ?_
 refine x_s fun w64 sw64 B66 u65 => ?_
 refine go ?_
 refine f_ret3 (v1 := .agg #[.int .i64 Vj.m, .slice Vj.ah Vj.rs.length Vj.ch, .slice Vj.al Vj.ld.length Vj.cl, .slice Vj.au Vj.un.length Vj.cu, .int .i64 Vj.wk]) (v2 := .int .i64 0) (v3 := .int .i64 0) results20 ⟨_, _, rfl, run_loadVarN (vs := [.int .i64 Vj.m, .slice Vj.ah Vj.rs.length Vj.ch, .slice Vj.al Vj.ld.length Vj.cl, .slice Vj.au Vj.un.length Vj.cu, .int .i64 Vj.wk]) isAgg37 sizeOf37 rfl (B66.at.sub 0 5)⟩ rfl rfl ?_
 have hl9 : ¬ 2000 < l.length := by omega
 have hR : runP V.st 0 l = (0, 0, Vj.st) := by rw [hrun, List.drop_of_length_le (by omega)]; rfl
 have he : repP V.st l = (0, 0, Vj.st) := by unfold repP; rw [if_neg hl9, hR, if_pos rfl]
 rw [he]
 exact ⟨⟨Vj, rfl, ((hMj.low u65 (fun i h => by omega))).sin, rfl⟩, u_d⟩

end Go.Proofs.YtjdcpnaocjddoaaGreatDoor
namespace Go.Proofs.YtjdcpnaocjddoaaGreatDoor
open Go Go.RowKit Go.Proofs.Tryz
theorem Sl.ofBlk {α : Type} [Inhabited α] {enc : α → List Value} {k : Nat} (hk : ∀ x, (enc x).length = k) {w : World} {b : Nat} {t : TypeId} {xs : List α} (h : Blk w b t (xs.flatMap enc)) : Sl enc k w (some ⟨b, 0, none⟩) b 0 xs :=
  ⟨fun _ => rfl, fun _ => h.lt, fun i hi j v hv => by
    have h1 := flatMap_at hk xs i j v hi hv
    rw [Nat.zero_add]
    exact h.get h1⟩
/-! ### The document's examples -/
def knE1 : List Ent := [⟨2, 1, 1, 3, 0, 0⟩]
def knE4 : List Ent := [⟨0, 1, 1, 10, 0, 0⟩, ⟨0, 2, 1, 0, 5, 50⟩, ⟨0, 3, 1, 30, 0, 0⟩, ⟨0, 4, 1, 0, 5, 20⟩]
def knB (b : Nat) : Bil := ⟨5, 9, 1200, 10, 250, [3, 77], some ⟨b, 0, none⟩, b, 0, 2⟩
theorem kn_code : codeR 5 = ([48, 48, 49, 49, 48], 0) := by kernel_rfl
theorem kn_dec : decP [48, 48, 49, 49, 48, 49] = (5, 5, 0) := by kernel_rfl
theorem kn_log1 : chkE knE1 = 0 := by kernel_rfl
theorem kn_log2 : (logP knE1).length = 64 ∧ nth (logP knE1) 0 = 142 ∧ nth (logP knE1) 1 = 64 ∧ nth (logP knE1) 30 = 1 ∧ nth (logP knE1) 31 = 14 ∧ nth (logP knE1) 62 = 4 ∧ nth (logP knE1) 63 = 223 := ⟨by kernel_rfl, by kernel_rfl, by kernel_rfl, by kernel_rfl, by kernel_rfl, by kernel_rfl, by kernel_rfl⟩
theorem kn_rep : repP zSea knE4 = (0, 0, ⟨0, 1000, [⟨1, 30, [⟨5, 30⟩]⟩], [⟨5, 50⟩], [⟨5, 20⟩]⟩) := by kernel_rfl
theorem kn_i5 : Lib.itoa 5 = [53] := by simp [Lib.itoa, Lib.decDigits]
theorem kn_i9 : Lib.itoa 9 = [57] := by simp [Lib.itoa, Lib.decDigits]
theorem kn_i1200 : Lib.itoa 1200 = [49, 50, 48, 48] := by simp [Lib.itoa, Lib.decDigits]
theorem kn_i10 : Lib.itoa 10 = [49, 48] := by simp [Lib.itoa, Lib.decDigits]
theorem kn_i250 : Lib.itoa 250 = [50, 53, 48] := by simp [Lib.itoa, Lib.decDigits]
theorem kn_i3 : Lib.itoa 3 = [51] := by simp [Lib.itoa, Lib.decDigits]
theorem kn_i77 : Lib.itoa 77 = [55, 55] := by simp [Lib.itoa, Lib.decDigits]
def knT : List UInt8 := [53, 32, 57, 32, 49, 50, 48, 48, 32, 49, 48, 62, 50, 53, 48, 32, 51, 44, 55, 55, 32, 99, 108, 10]
theorem kn_chkB (b : Nat) : chkB 0 [knB b] = 0 := by kernel_rfl
theorem kn_bill (b : Nat) : billP (knB b) = knT := by
  unfold billP sealsP
  show sealedP [Lib.itoa 5, Lib.itoa 9, Lib.itoa 1200, Lib.itoa 10 ++ [62] ++ Lib.itoa 250, Lib.join [Lib.itoa 3, Lib.itoa 77] [44]] = knT
  rw [kn_i5, kn_i9, kn_i1200, kn_i10, kn_i250, kn_i3, kn_i77]
  kernel_rfl
theorem kn_txt (b : Nat) : textP [knB b] = (knT, 0) := by
  unfold textP
  rw [if_neg (by simp), if_pos (kn_chkB b)]
  have e : [knB b].flatMap billP = billP (knB b) := by simp
  rw [e, kn_bill]
theorem knCode_c (w0 : World) : CallsV Tryz.prog 24 [.int .i64 5] w0 fun v w' => v = .tuple #[.string (strB [48, 48, 49, 49, 48]), .int .i64 0] ∧ Ext w0 w' := by
  have h := Code_c 5 w0
  rw [kn_code] at h
  exact h
theorem knDec_c (w0 : World) : CallsV Tryz.prog 26 [.string (strB [48, 48, 49, 49, 48, 49])] w0 fun v w' => v = .tuple #[.int .i64 5, .int .i64 5, .int .i64 0] ∧ Ext w0 w' := by
  have h := Decode_c [48, 48, 49, 49, 48, 49] w0 (by decide)
  rw [kn_dec] at h
  exact h
theorem knLog_c (b : Nat) (w0 : World) (hB : Blk w0 b 43 [.int .i64 2, .int .i64 1, .int .i64 1, .int .i64 3, .int .i64 0, .int .i64 0]) : CallsV Tryz.prog 15 [.slice (some ⟨b, 0, none⟩) 1 1] w0 fun v w' => (∃ a9 g9 c9, v = .tuple #[.slice a9 64 c9, .int .i64 0] ∧ Acc encY 1 5 w0.heap.size w' a9 g9 c9 (logP knE1)) ∧ Ext w0 w' := by
  have h := WriteLog_c knE1 (some ⟨b, 0, none⟩) b 0 1 w0 (Sl.ofBlk (enc := encEnt) (k := 6) (xs := knE1) (fun _ => rfl) hB) (by decide) (by have := hB.lt; omega)
  rw [kn_log1, kn_log2.1] at h
  exact h
theorem knRep_c (b : Nat) (w0 : World) (hB : Blk w0 b 43 (knE4.flatMap encEnt)) : CallsV Tryz.prog 20 [.agg #[.int .i64 0, .slice none 0 0, .slice none 0 0, .slice none 0 0, .int .i64 0], .slice (some ⟨b, 0, none⟩) 4 4] w0 fun v w' => (∃ m a c l1 a1 c1 l2 a2 c2, v = .tuple #[.agg #[.int .i64 m, .slice a 1 c, .slice a1 l1 c1, .slice a2 l2 c2, .int .i64 1000], .int .i64 0, .int .i64 0]) ∧ Ext w0 w' := by
  have hz : SeaOk 0 SG0.st := ⟨asc_nil, fun h hh => (by cases hh), CgOk.nil _, CgOk.nil _, by decide, by decide, by decide⟩
  have hp : 0 < w0.heap.size := by have := hB.lt; omega
  refine CallsV.mono (Replay_c knE4 (some ⟨b, 0, none⟩) b 0 4 SG0 0 0 0 0 w0 (Sl.ofBlk (enc := encEnt) (k := 6) (xs := knE4) (fun _ => rfl) hB) (by decide) hp (SIn.zero hp) hz (by decide)) ?_
  rintro v w' ⟨⟨V9, rfl, hI, hst⟩, u⟩
  have hr : repP SG0.st knE4 = (0, 0, ⟨0, 1000, [⟨1, 30, [⟨5, 30⟩]⟩], [⟨5, 50⟩], [⟨5, 20⟩]⟩) := kn_rep
  rw [hr] at hst ⊢
  have h1 : V9.wk = 1000 := congrArg Sea.wk hst
  have h2 : V9.rs.length = 1 := by
    have h3 := congrArg (fun s : Sea => s.hs.length) hst
    have h3 : (V9.rs.map HR.hul).length = 1 := h3
    rwa [List.length_map] at h3
  exact ⟨⟨V9.m, V9.ah, V9.ch, _, V9.al, V9.cl, _, V9.au, V9.cu, by unfold SG.cells; rw [h1, h2]; rfl⟩, u⟩
theorem knBills_c (b b2 : Nat) (w0 : World) (hT : Tab10 w0) (hB2 : Blk w0 b2 3 [.int .i64 3, .int .i64 77]) (hB : Blk w0 b 71 [.int .i64 5, .int .i64 9, .int .i64 1200, .int .i64 10, .int .i64 250, .slice (some ⟨b2, 0, none⟩) 2 2]) : CallsV Tryz.prog 38 [.slice (some ⟨b, 0, none⟩) 1 1] w0 fun v w' => v = .tuple #[.string (strB knT), .int .i64 0] ∧ Ext w0 w' := by
  have h := WriteBills_c [knB b2] (some ⟨b, 0, none⟩) b 0 1 w0 (Sl.ofBlk (enc := encBil) (k := 6) (xs := [knB b2]) (fun _ => rfl) hB) (fun x hx => by rw [List.mem_singleton.1 hx]; exact ⟨SlI.own (xs := [3, 77]) hB2, by show 2 ≤ 1000000; decide⟩) (by simp) hT (by have := hB.lt; omega)
  rw [kn_txt] at h
  exact h
set_option maxHeartbeats 4000000 in
theorem known_c  (w0 : World) (hT : Tab10 w0) (_hpos : 0 < w0.heap.size) :
    CallsV Tryz.prog 13 [] w0 (fun v w' => v = .bool true ∧ Ext w0 w') := by
 have hl64 : (logP knE1).length = 64 := kn_log2.1
 have ht24 : knT.length = 24 := rfl
 refine f_n func13 ?_
 refine go ?_
 refine x_c func24 rfl rfl (knCode_c _) ?_
 rintro _ w4 ⟨rfl, u5⟩ zu5
 refine go ?_
 refine x_c func26 rfl rfl (knDec_c _) ?_
 rintro _ w10 ⟨rfl, u11⟩ zu11
 refine go ?_
 refine x_l fun bk15 w16 ebk15 sbk15 B17 u18 => ?_
 refine x_c func15 rfl rfl (knLog_c bk15 _ B17) ?_
 rintro _ w21 ⟨⟨a9, g9, c9, rfl, hF9⟩, u22⟩ zu22
 have lt_g9 := hF9.lt
 refine go ?_
 refine x_l fun bk26 w27 ebk26 sbk26 B28 u29 => ?_
 refine x_c func20 rfl rfl (knRep_c bk26 _ B28) ?_
 rintro _ w32 ⟨⟨m9, ah9, ch9, l19, al9, cl9, l29, au9, cu9, rfl⟩, u33⟩ zu33
 refine go ?_
 refine x_n fun bk36 w37 ebk36 sbk36 B38 u39 => ?_
 refine x_s fun w41 sw41 B43 u42 => ?_
 refine go ?_
 refine x_l fun bk46 w47 ebk46 sbk46 B48 u49 => ?_
 refine go ?_
 refine x_l fun bk51 w52 ebk51 sbk51 B53 u54 => ?_
 have B56 := (B48.kx u54)
 refine x_c func38 rfl rfl (knBills_c bk51 bk46 _ (hT.ext (((((((((((Upd.refl (fun _ => False) w0).nx u5).nx u11).nx u18).nx u22).nx u29).nx u33).nx u39).next u42 (fun i hi h => by omega)).nx u49).nx u54)) B56 B53) ?_
 rintro _ w58 ⟨rfl, u59⟩ zu59
 refine go ?_
 refine t_lenS underlying9 rfl rfl rfl rfl (t_same 77 (v := .int .i64 24) rfl rfl ?_)
 refine go ?_
 refine t_bo (Bo.eqS ([48, 48, 49, 49, 48]) ([48, 48, 49, 49, 48])) rfl rfl rfl rfl (t_same 81 (v := .bool true) rfl (congrArg Value.bool (decide_eq_true rfl)) ?_)
 refine go ?_
 have D65 := (((((((hF9.keep u29 (fun _ h => h)).keep u33 (fun _ h => h)).keep u39 (fun _ h => h)).keep u42 (fun hb => show ¬ (g9 = bk36) by first | omega | assumption)).keep u49 (fun _ h => h)).keep u54 (fun _ h => h)).keep u59 (fun _ h => h))
 refine g_i 0 (D65.sl (fun _ => rfl)) (fun _ => ?_)
 refine st1 ?_
 refine t_same 93 (v := .int .u8 142) rfl (by rw [kn_log2.2.1]; rfl) ?_
 refine go ?_
 refine g_i 1 (D65.sl (fun _ => rfl)) (fun _ => ?_)
 refine st1 ?_
 refine t_same 99 (v := .int .u8 64) rfl (by rw [kn_log2.2.2.1]; rfl) ?_
 refine go ?_
 refine g_i 30 (D65.sl (fun _ => rfl)) (fun _ => ?_)
 refine st1 ?_
 refine t_same 105 (v := .int .u8 1) rfl (by rw [kn_log2.2.2.2.1]; rfl) ?_
 refine go ?_
 refine g_i 31 (D65.sl (fun _ => rfl)) (fun _ => ?_)
 refine st1 ?_
 refine t_same 111 (v := .int .u8 14) rfl (by rw [kn_log2.2.2.2.2.1]; rfl) ?_
 refine go ?_
 refine g_i 62 (D65.sl (fun _ => rfl)) (fun _ => ?_)
 refine st1 ?_
 refine t_same 117 (v := .int .u8 4) rfl (by rw [kn_log2.2.2.2.2.2.1]; rfl) ?_
 refine go ?_
 refine g_i 63 (D65.sl (fun _ => rfl)) (fun _ => ?_)
 refine st1 ?_
 refine t_same 123 (v := .int .u8 223) rfl (by rw [kn_log2.2.2.2.2.2.2]; rfl) ?_
 refine go ?_
 refine t_subS 0 21 underlying9 rfl rfl rfl (.inr ⟨rfl, rfl⟩) (k := .i64) (m := 0) (x1 := .tmp 0) (.inl ⟨rfl, rfl, by first | rfl | omega⟩) (by omega) (by omega) (t_bo (Bo.eqS (((knT).drop 0).take (21 - 0)) ([53, 32, 57, 32, 49, 50, 48, 48, 32, 49, 48, 62, 50, 53, 48, 32, 51, 44, 55, 55, 32])) rfl rfl rfl rfl (t_same 134 (v := .bool true) rfl (congrArg Value.bool (decide_eq_true (by kernel_rfl))) ?_))
 refine go ?_
 refine f_1 results13 ?_
 exact ⟨rfl, u_d⟩

end Go.Proofs.YtjdcpnaocjddoaaGreatDoor
namespace Go.Proofs.YtjdcpnaocjddoaaGreatDoor
open Go Go.RowKit Go.Proofs.Tryz
theorem bitB_hi {n k i : Nat} (h : n < 2 ^ k) (hi : k ≤ i) : bitB n i = 48 := by
  rcases bitB_cases n i with q | q
  · exact q.2
  · have : n / 2 ^ i = 0 := Nat.div_eq_of_lt (Nat.lt_of_lt_of_le h (Nat.pow_le_pow_right (by decide) hi))
    rw [this] at q; exact absurd q.1 (by decide)
theorem putP_hi {n k : Nat} (h : n < 2 ^ k) : ∀ j : Nat, putP n (j + k) = List.replicate j 48 ++ putP n k
  | 0 => by simp
  | j + 1 => by
    rw [show j + 1 + k = (j + k) + 1 by omega]
    show bitB n (j + k) :: putP n (j + k) = _
    rw [bitB_hi h (by omega), putP_hi h j, List.replicate_succ]; rfl
theorem div_lt {n k : Nat} (h : n / 2 ^ k = 0) : n < 2 ^ k := by
  rcases Nat.lt_or_ge n (2 ^ k) with q | q
  · exact q
  · have := Nat.div_pos q (Nat.pow_pos (by decide)); omega
theorem code_ref {m k : Nat} (hk : 1 ≤ k) (h1 : 0 < (m + 1) / 2 ^ (k - 1)) (h2 : (m + 1) / 2 ^ k = 0) : List.replicate (k - 1) 48 ++ putP (m + 1) k = codeP m := by
  have hlt := div_lt h2
  have hge : 2 ^ (k - 1) ≤ m + 1 := by
    rcases Nat.lt_or_ge (m + 1) (2 ^ (k - 1)) with q | q
    · rw [Nat.div_eq_of_lt q] at h1; omega
    · exact q
  have hl : (m + 1).log2 = k - 1 := (Nat.log2_eq_iff (by omega)).2 ⟨hge, by rw [Nat.sub_add_cancel hk]; exact hlt⟩
  unfold codeP
  rw [hl, show 2 * (k - 1) + 1 = (k - 1) + k by omega, putP_hi hlt]
theorem pow_small {n k : Nat} (hn : n ≤ 1000000001) (h : 0 < n / 2 ^ k) : k ≤ 29 := by
  rcases Nat.lt_or_ge k 30 with q | q
  · omega
  · have h2 : 2 ^ 30 ≤ 2 ^ k := Nat.pow_le_pow_right (by decide) q
    have h3 : n < 2 ^ k := Nat.lt_of_lt_of_le (by omega : n < 2 ^ 30) h2
    rw [Nat.div_eq_of_lt h3] at h; omega
theorem div_half (n k : Nat) : n / 2 ^ (k + 1) = n / 2 ^ k / 2 := by rw [Nat.pow_succ, Nat.div_div_eq_div_mul]

set_option maxHeartbeats 4000000 in
theorem rCode_c (m : Nat) (w0 : World) (hm : m ≤ 1000000000) :
    CallsV Tryz.prog 25 [.int .i64 (m : Int)] w0 (fun v w' => v = .string (strB (codeP m)) ∧ Ext w0 w') := by
 refine f_n func25 ?_
 refine go ?_
 refine x_l2 (fun _ => False) [] (fun (k : Nat) (q : Nat) => [(3, .string (strB (putP (m + 1) k))), (4, .int .i64 (q : Int))]) (fun k q w => (k ≤ 31) ∧ (k = 0 ∨ 0 < (m + 1) / 2 ^ (k - 1)) ∧ (q = (m + 1) / 2 ^ k) ∧ (q ≤ m + 1)) (fun k q => q) 0 (m + 1) ⟨(Nat.zero_le _), (.inl rfl), (by rw [Nat.pow_zero, Nat.div_one]), (Nat.le_refl _)⟩ ?_ (h0 := by exact ⟨rfl, (congrArg (fun z => some (Value.int .i64 z)) (by omega)), trivial⟩)
 rintro k q w6 ⟨hk, hk1, hq, hqm⟩ u7 zu7 K5 hK5
 refine go ?_
 refine q_p (fun g10 => ?_) fun g10 => ?_
 ·
  have hk29 := pow_small (by omega) (show 0 < ((m + 1) / 2 ^ k) by rw [← hq]; omega)
  have hpl := putP_length (m + 1) k
  refine go ?_
  refine t_rem rfl rfl rfl rfl (by omega) (by omega) ?_
  refine go ?_
  refine q_p (fun g15 => ?_) fun g15 => ?_
  ·
   have hbb : bitB (m + 1) k = 49 := by
     rcases bitB_cases (m + 1) k with r | r <;> rw [← hq] at r
     · exact absurd r.1 (by omega)
     · exact r.2
   refine go ?_
   refine t_bo (Bo.addS (by simp only [List.length_cons, List.length_nil]; omega)) rfl rfl rfl rfl ?_
   refine go ?_
   refine t_quo rfl rfl rfl rfl (by omega) (by omega) ?_
   refine go ?_
   exact hK5 (k + 1) (q / 2) ⟨(by omega), (.inr (by rw [Nat.add_sub_cancel, ← hq]; omega)), (by rw [hq, div_half]), (by omega)⟩ (hs := by exact ⟨(congrArg (fun z => some (Value.string (strB z))) (by show _ = bitB (m + 1) k :: putP (m + 1) k; rw [hbb]; rfl)), (congrArg (fun z => some (Value.int .i64 z)) (by omega)), trivial⟩)
  have hbb : bitB (m + 1) k = 48 := by
    rcases bitB_cases (m + 1) k with r | r <;> rw [← hq] at r
    · exact r.2
    · exact absurd r.1 (by omega)
  refine go ?_
  refine t_bo (Bo.addS (by simp only [List.length_cons, List.length_nil]; omega)) rfl rfl rfl rfl ?_
  refine go ?_
  refine t_quo rfl rfl rfl rfl (by omega) (by omega) ?_
  refine go ?_
  exact hK5 (k + 1) (q / 2) ⟨(by omega), (.inr (by rw [Nat.add_sub_cancel, ← hq]; omega)), (by rw [hq, div_half]), (by omega)⟩ (hs := by exact ⟨(congrArg (fun z => some (Value.string (strB z))) (by show _ = bitB (m + 1) k :: putP (m + 1) k; rw [hbb]; rfl)), (congrArg (fun z => some (Value.int .i64 z)) (by omega)), trivial⟩)
 have hd0 : ((m + 1) / 2 ^ k) = 0 := by rw [← hq]; omega
 have hk0 : 1 ≤ k := by
   rcases hk1 with r | r
   · rw [r, Nat.pow_zero, Nat.div_one] at hd0; omega
   · rcases Nat.eq_zero_or_pos k with s | s
     · rw [s, Nat.pow_zero, Nat.div_one] at hd0; omega
     · exact s
 have hk2 := hk1.resolve_left (by omega)
 have hpl := putP_length (m + 1) k
 refine go ?_
 refine x_l1 (fun _ => False) [3] (fun (i : Nat) => [(5, .string (strB (List.replicate (i - 1) 48))), (6, .int .i64 (i : Int))]) (fun i w => (1 ≤ i) ∧ (i ≤ k)) (fun i => k - i) 1 ⟨(Nat.le_refl _), hk0⟩ ?_
 rintro i w17 ⟨hi, hik⟩ u18 zu18 K16 hK16
 have hrl : (List.replicate (i - 1) (48 : UInt8)).length = i - 1 := List.length_replicate
 refine go ?_
 refine t_lenS underlying9 rfl rfl rfl rfl ?_
 refine go ?_
 refine q_p (fun g23 => ?_) fun g23 => ?_
 ·
  refine go ?_
  refine t_bo (Bo.addS (by simp only [List.length_cons, List.length_nil]; omega)) rfl rfl rfl rfl ?_
  refine go ?_
  exact hK16 (i + 1) ⟨(by omega), (by omega)⟩ (hs := by exact ⟨(congrArg (fun z => some (Value.string (strB z))) (by rw [show i + 1 - 1 = (i - 1) + 1 by omega, List.replicate_succ'])), rfl, rfl, trivial⟩)
 refine go ?_
 refine t_bo (Bo.addS (by rw [hrl, hpl]; omega)) rfl rfl rfl rfl ?_
 refine go ?_
 refine f_1 results25 ?_
 exact ⟨by rw [show i = k by omega, code_ref hk0 hk2 hd0], u_d⟩

end Go.Proofs.YtjdcpnaocjddoaaGreatDoor
namespace Go.Proofs.YtjdcpnaocjddoaaGreatDoor
open Go Go.RowKit Go.Proofs.Tryz
set_option maxHeartbeats 4000000 in
theorem LogsCodes_c (n : Int) (s : List UInt8) (by_ : Int) (w0 : World) (hT : Tab10 w0) (hpos : 0 < w0.heap.size) :
    CallsV Tryz.prog 6 [.int .i64 n, .string (strB s), .int .i64 by_] w0 (fun v w' => v = .bool true ∧ Ext w0 w') := by
 have E0 := Sc.mk (Upd.refl (fun _ => False) w0)
 refine f_n func6 ?_
 refine go ?_
 refine t_lenS underlying9 rfl rfl rfl rfl ?_
 refine go ?_
 refine t_splitp 18 rfl (fun g18 => ?_) (fun g18 => ?_)
 ·
  refine go ?_
  refine t_lenS underlying9 rfl rfl rfl rfl ?_
  refine go ?_
  refine t_splitp 23 rfl (fun g23 => ?_) (fun g23 => ?_)
  ·
   refine go ?_
   refine x_c func13 rfl rfl (known_c _ (hT.ext E0.u) (by omega)) ?_
   rintro _ w6 ⟨rfl, u7⟩ zu7
   refine go ?_
   refine f_1 results6 ?_
   exact ⟨rfl, u_d⟩
  refine go ?_
  refine t_lenS underlying9 rfl rfl rfl rfl ?_
  refine go ?_
  refine q_p (fun g27 => ?_) fun g27 => ?_
  ·
   refine go ?_
   refine x_c func13 rfl rfl (known_c _ (hT.ext E0.u) (by omega)) ?_
   rintro _ w12 ⟨rfl, u13⟩ zu13
   refine go ?_
   refine f_1 results6 ?_
   exact ⟨rfl, u_d⟩
  refine go ?_
  refine x_c func24 rfl rfl (Code_c n _) ?_
  rintro _ w18 ⟨rfl, u19⟩ zu19
  have E21 := Sc.mk (E0.u.nx u19)
  refine go ?_
  refine t_splitp 36 rfl (fun g36 => ?_) (fun g36 => ?_)
  ·
   have hcR : codeR n = ([], 3) := by unfold codeR; rw [if_neg (by omega)]
   iterate 9 refine st1 ?_
   refine t_same 40 (v := .int .i64 3) rfl (by rw [hcR]) ?_
   iterate 3 refine st1 ?_
   refine t_same 43 (v := .string (strB ([]))) rfl (by rw [hcR]) (t_bo (Bo.neS ([]) ([])) rfl rfl rfl rfl (t_same 44 (v := .bool false) rfl (congrArg Value.bool (decide_eq_false (fun h => h rfl))) ?_))
   refine go ?_
   refine x_c func26 rfl rfl (Decode_c s _ (by omega)) ?_
   rintro _ w27 ⟨rfl, u28⟩ zu28
   refine go ?_
   refine x_c func27 rfl rfl (rDecode_c s _ (by omega)) ?_
   rintro _ w33 ⟨rfl, u34⟩ zu34
   iterate 15 refine st1 ?_
   refine t_samehd (v := .bool false) (by simp) ?_
   iterate 4 refine st1 ?_
   refine t_samehd (v := .bool false) (by simp) ?_
   iterate 5 refine st1 ?_
   refine t_samehd (v := .bool false) (by simp) ?_
   refine go ?_
   refine t_toB underlying9 underlying25 underlying5 rfl rfl rfl (fun bk40 cp41 w42 ebk40 sbk40 B43 u44 => ?_)
   refine go ?_
   refine x_c func28 rfl rfl (Weigh_c s (some ⟨bk40, 0, none⟩) bk40 0 cp41 by_ _ (B43.sl) (by omega)) ?_
   rintro _ w47 ⟨rfl, u48⟩ zu48
   have E50 := Sc.mk ((((E21.u.nx u28).nx u34).nx u44).nx u48)
   refine go ?_
   refine t_lenS underlying9 rfl rfl rfl rfl ?_
   refine go ?_
   refine q_p (fun g88 => ?_) fun g88 => ?_
   ·
    have hwR : WeighR s by_ = (0, 5) := by unfold WeighR; rw [if_pos (by omega)]
    iterate 3 refine st1 ?_
    refine t_same 89 (v := .int .i64 5) rfl (by rw [hwR]) ?_
    iterate 3 refine st1 ?_
    refine t_same 92 (v := .int .i64 0) rfl (by rw [hwR]) ?_
    refine go ?_
    refine x_c func13 rfl rfl (known_c _ (hT.ext E50.u) (by omega)) ?_
    rintro _ w55 ⟨rfl, u56⟩ zu56
    refine go ?_
    refine f_1 results6 ?_
    exact ⟨rfl, u_d⟩
   refine go ?_
   refine t_splitp 100 rfl (fun g100 => ?_) (fun g100 => ?_)
   ·
    have hwR : WeighR s by_ = (0, 3) := by unfold WeighR; rw [if_neg (by omega), if_neg (by omega)]
    iterate 9 refine st1 ?_
    refine t_same 104 (v := .int .i64 3) rfl (by rw [hwR]) ?_
    iterate 3 refine st1 ?_
    refine t_same 107 (v := .int .i64 0) rfl (by rw [hwR]) ?_
    refine go ?_
    refine x_c func13 rfl rfl (known_c _ (hT.ext E50.u) (by omega)) ?_
    rintro _ w63 ⟨rfl, u64⟩ zu64
    refine go ?_
    refine f_1 results6 ?_
    exact ⟨rfl, u_d⟩
   refine go ?_
   refine q_p (fun g103 => ?_) fun g103 => ?_
   ·
    have hwR : WeighR s by_ = (0, 3) := by unfold WeighR; rw [if_neg (by omega), if_neg (by omega)]
    iterate 3 refine st1 ?_
    refine t_same 104 (v := .int .i64 3) rfl (by rw [hwR]) ?_
    iterate 3 refine st1 ?_
    refine t_same 107 (v := .int .i64 0) rfl (by rw [hwR]) ?_
    refine go ?_
    refine x_c func13 rfl rfl (known_c _ (hT.ext E50.u) (by omega)) ?_
    rintro _ w69 ⟨rfl, u70⟩ zu70
    refine go ?_
    refine f_1 results6 ?_
    exact ⟨rfl, u_d⟩
   have hwR : WeighR s by_ = (weighP s by_, 0) := by unfold WeighR; rw [if_neg (by omega), if_pos (by omega)]
   iterate 5 refine st1 ?_
   refine t_same 113 (v := .int .i64 0) rfl (by rw [hwR]) ?_
   iterate 3 refine st1 ?_
   refine t_same 116 (v := .int .i64 (weighP s by_)) rfl (by rw [hwR]) ?_
   refine go ?_
   refine t_toB underlying9 underlying25 underlying5 rfl rfl rfl (fun bk74 cp75 w76 ebk74 sbk74 B77 u78 => ?_)
   refine go ?_
   refine x_c func29 rfl rfl (rWeigh_c s (some ⟨bk74, 0, none⟩) bk74 0 cp75 by_ _ (B77.sl) (by omega) (by omega)) ?_
   rintro _ w81 ⟨rfl, u82⟩ zu82
   refine st1 ?_
   refine t_samehd (v := .bool true) (by simp) ?_
   refine go ?_
   refine x_c func13 rfl rfl (known_c _ (hT.ext ((E50.u.nx u78).nx u82)) (by omega)) ?_
   rintro _ w86 ⟨rfl, u87⟩ zu87
   refine go ?_
   refine f_1 results6 ?_
   exact ⟨rfl, u_d⟩
  refine go ?_
  refine q_p (fun g39 => ?_) fun g39 => ?_
  ·
   have hcR : codeR n = ([], 3) := by unfold codeR; rw [if_neg (by omega)]
   iterate 3 refine st1 ?_
   refine t_same 40 (v := .int .i64 3) rfl (by rw [hcR]) ?_
   iterate 3 refine st1 ?_
   refine t_same 43 (v := .string (strB ([]))) rfl (by rw [hcR]) (t_bo (Bo.neS ([]) ([])) rfl rfl rfl rfl (t_same 44 (v := .bool false) rfl (congrArg Value.bool (decide_eq_false (fun h => h rfl))) ?_))
   refine go ?_
   refine x_c func26 rfl rfl (Decode_c s _ (by omega)) ?_
   rintro _ w93 ⟨rfl, u94⟩ zu94
   refine go ?_
   refine x_c func27 rfl rfl (rDecode_c s _ (by omega)) ?_
   rintro _ w99 ⟨rfl, u100⟩ zu100
   iterate 15 refine st1 ?_
   refine t_samehd (v := .bool false) (by simp) ?_
   iterate 4 refine st1 ?_
   refine t_samehd (v := .bool false) (by simp) ?_
   iterate 5 refine st1 ?_
   refine t_samehd (v := .bool false) (by simp) ?_
   refine go ?_
   refine t_toB underlying9 underlying25 underlying5 rfl rfl rfl (fun bk106 cp107 w108 ebk106 sbk106 B109 u110 => ?_)
   refine go ?_
   refine x_c func28 rfl rfl (Weigh_c s (some ⟨bk106, 0, none⟩) bk106 0 cp107 by_ _ (B109.sl) (by omega)) ?_
   rintro _ w113 ⟨rfl, u114⟩ zu114
   have E116 := Sc.mk ((((E21.u.nx u94).nx u100).nx u110).nx u114)
   refine go ?_
   refine t_lenS underlying9 rfl rfl rfl rfl ?_
   refine go ?_
   refine q_p (fun g88 => ?_) fun g88 => ?_
   ·
    have hwR : WeighR s by_ = (0, 5) := by unfold WeighR; rw [if_pos (by omega)]
    iterate 3 refine st1 ?_
    refine t_same 89 (v := .int .i64 5) rfl (by rw [hwR]) ?_
    iterate 3 refine st1 ?_
    refine t_same 92 (v := .int .i64 0) rfl (by rw [hwR]) ?_
    refine go ?_
    refine x_c func13 rfl rfl (known_c _ (hT.ext E116.u) (by omega)) ?_
    rintro _ w121 ⟨rfl, u122⟩ zu122
    refine go ?_
    refine f_1 results6 ?_
    exact ⟨rfl, u_d⟩
   refine go ?_
   refine t_splitp 100 rfl (fun g100 => ?_) (fun g100 => ?_)
   ·
    have hwR : WeighR s by_ = (0, 3) := by unfold WeighR; rw [if_neg (by omega), if_neg (by omega)]
    iterate 9 refine st1 ?_
    refine t_same 104 (v := .int .i64 3) rfl (by rw [hwR]) ?_
    iterate 3 refine st1 ?_
    refine t_same 107 (v := .int .i64 0) rfl (by rw [hwR]) ?_
    refine go ?_
    refine x_c func13 rfl rfl (known_c _ (hT.ext E116.u) (by omega)) ?_
    rintro _ w129 ⟨rfl, u130⟩ zu130
    refine go ?_
    refine f_1 results6 ?_
    exact ⟨rfl, u_d⟩
   refine go ?_
   refine q_p (fun g103 => ?_) fun g103 => ?_
   ·
    have hwR : WeighR s by_ = (0, 3) := by unfold WeighR; rw [if_neg (by omega), if_neg (by omega)]
    iterate 3 refine st1 ?_
    refine t_same 104 (v := .int .i64 3) rfl (by rw [hwR]) ?_
    iterate 3 refine st1 ?_
    refine t_same 107 (v := .int .i64 0) rfl (by rw [hwR]) ?_
    refine go ?_
    refine x_c func13 rfl rfl (known_c _ (hT.ext E116.u) (by omega)) ?_
    rintro _ w135 ⟨rfl, u136⟩ zu136
    refine go ?_
    refine f_1 results6 ?_
    exact ⟨rfl, u_d⟩
   have hwR : WeighR s by_ = (weighP s by_, 0) := by unfold WeighR; rw [if_neg (by omega), if_pos (by omega)]
   iterate 5 refine st1 ?_
   refine t_same 113 (v := .int .i64 0) rfl (by rw [hwR]) ?_
   iterate 3 refine st1 ?_
   refine t_same 116 (v := .int .i64 (weighP s by_)) rfl (by rw [hwR]) ?_
   refine go ?_
   refine t_toB underlying9 underlying25 underlying5 rfl rfl rfl (fun bk140 cp141 w142 ebk140 sbk140 B143 u144 => ?_)
   refine go ?_
   refine x_c func29 rfl rfl (rWeigh_c s (some ⟨bk140, 0, none⟩) bk140 0 cp141 by_ _ (B143.sl) (by omega) (by omega)) ?_
   rintro _ w147 ⟨rfl, u148⟩ zu148
   refine st1 ?_
   refine t_samehd (v := .bool true) (by simp) ?_
   refine go ?_
   refine x_c func13 rfl rfl (known_c _ (hT.ext ((E116.u.nx u144).nx u148)) (by omega)) ?_
   rintro _ w152 ⟨rfl, u153⟩ zu153
   refine go ?_
   refine f_1 results6 ?_
   exact ⟨rfl, u_d⟩
  have hcR : codeR n = (codeP n.toNat, 0) := by unfold codeR; rw [if_pos (by omega)]
  iterate 3 refine st1 ?_
  refine t_same 46 (v := .int .i64 0) rfl (by rw [hcR]) ?_
  iterate 3 refine st1 ?_
  refine t_same 49 (v := .string (strB (codeP n.toNat))) rfl (by rw [hcR]) ?_
  refine go ?_
  refine x_c func25 rfl rfl (by have h9 := rCode_c n.toNat w18 (by omega); rw [Int.toNat_of_nonneg (by omega)] at h9; exact h9) ?_
  rintro _ w158 ⟨rfl, u159⟩ zu159
  refine t_bo (Bo.neS (codeP n.toNat) (codeP n.toNat)) rfl rfl rfl rfl (t_same 52 (v := .bool false) rfl (congrArg Value.bool (decide_eq_false (fun h => h rfl))) ?_)
  refine go ?_
  refine x_c func26 rfl rfl (Decode_c s _ (by omega)) ?_
  rintro _ w164 ⟨rfl, u165⟩ zu165
  refine go ?_
  refine x_c func27 rfl rfl (rDecode_c s _ (by omega)) ?_
  rintro _ w170 ⟨rfl, u171⟩ zu171
  iterate 15 refine st1 ?_
  refine t_samehd (v := .bool false) (by simp) ?_
  iterate 4 refine st1 ?_
  refine t_samehd (v := .bool false) (by simp) ?_
  iterate 5 refine st1 ?_
  refine t_samehd (v := .bool false) (by simp) ?_
  refine go ?_
  refine t_toB underlying9 underlying25 underlying5 rfl rfl rfl (fun bk177 cp178 w179 ebk177 sbk177 B180 u181 => ?_)
  refine go ?_
  refine x_c func28 rfl rfl (Weigh_c s (some ⟨bk177, 0, none⟩) bk177 0 cp178 by_ _ (B180.sl) (by omega)) ?_
  rintro _ w184 ⟨rfl, u185⟩ zu185
  have E187 := Sc.mk (((((E21.u.nx u159).nx u165).nx u171).nx u181).nx u185)
  refine go ?_
  refine t_lenS underlying9 rfl rfl rfl rfl ?_
  refine go ?_
  refine q_p (fun g88 => ?_) fun g88 => ?_
  ·
   have hwR : WeighR s by_ = (0, 5) := by unfold WeighR; rw [if_pos (by omega)]
   iterate 3 refine st1 ?_
   refine t_same 89 (v := .int .i64 5) rfl (by rw [hwR]) ?_
   iterate 3 refine st1 ?_
   refine t_same 92 (v := .int .i64 0) rfl (by rw [hwR]) ?_
   refine go ?_
   refine x_c func13 rfl rfl (known_c _ (hT.ext E187.u) (by omega)) ?_
   rintro _ w192 ⟨rfl, u193⟩ zu193
   refine go ?_
   refine f_1 results6 ?_
   exact ⟨rfl, u_d⟩
  refine go ?_
  refine t_splitp 100 rfl (fun g100 => ?_) (fun g100 => ?_)
  ·
   have hwR : WeighR s by_ = (0, 3) := by unfold WeighR; rw [if_neg (by omega), if_neg (by omega)]
   iterate 9 refine st1 ?_
   refine t_same 104 (v := .int .i64 3) rfl (by rw [hwR]) ?_
   iterate 3 refine st1 ?_
   refine t_same 107 (v := .int .i64 0) rfl (by rw [hwR]) ?_
   refine go ?_
   refine x_c func13 rfl rfl (known_c _ (hT.ext E187.u) (by omega)) ?_
   rintro _ w200 ⟨rfl, u201⟩ zu201
   refine go ?_
   refine f_1 results6 ?_
   exact ⟨rfl, u_d⟩
  refine go ?_
  refine q_p (fun g103 => ?_) fun g103 => ?_
  ·
   have hwR : WeighR s by_ = (0, 3) := by unfold WeighR; rw [if_neg (by omega), if_neg (by omega)]
   iterate 3 refine st1 ?_
   refine t_same 104 (v := .int .i64 3) rfl (by rw [hwR]) ?_
   iterate 3 refine st1 ?_
   refine t_same 107 (v := .int .i64 0) rfl (by rw [hwR]) ?_
   refine go ?_
   refine x_c func13 rfl rfl (known_c _ (hT.ext E187.u) (by omega)) ?_
   rintro _ w206 ⟨rfl, u207⟩ zu207
   refine go ?_
   refine f_1 results6 ?_
   exact ⟨rfl, u_d⟩
  have hwR : WeighR s by_ = (weighP s by_, 0) := by unfold WeighR; rw [if_neg (by omega), if_pos (by omega)]
  iterate 5 refine st1 ?_
  refine t_same 113 (v := .int .i64 0) rfl (by rw [hwR]) ?_
  iterate 3 refine st1 ?_
  refine t_same 116 (v := .int .i64 (weighP s by_)) rfl (by rw [hwR]) ?_
  refine go ?_
  refine t_toB underlying9 underlying25 underlying5 rfl rfl rfl (fun bk211 cp212 w213 ebk211 sbk211 B214 u215 => ?_)
  refine go ?_
  refine x_c func29 rfl rfl (rWeigh_c s (some ⟨bk211, 0, none⟩) bk211 0 cp212 by_ _ (B214.sl) (by omega) (by omega)) ?_
  rintro _ w218 ⟨rfl, u219⟩ zu219
  refine st1 ?_
  refine t_samehd (v := .bool true) (by simp) ?_
  refine go ?_
  refine x_c func13 rfl rfl (known_c _ (hT.ext ((E187.u.nx u215).nx u219)) (by omega)) ?_
  rintro _ w223 ⟨rfl, u224⟩ zu224
  refine go ?_
  refine f_1 results6 ?_
  exact ⟨rfl, u_d⟩
 refine go ?_
 refine t_lenS underlying9 rfl rfl rfl rfl ?_
 refine go ?_
 refine q_p (fun g27 => ?_) fun g27 => ?_
 ·
  refine go ?_
  refine x_c func13 rfl rfl (known_c _ (hT.ext E0.u) (by omega)) ?_
  rintro _ w229 ⟨rfl, u230⟩ zu230
  refine go ?_
  refine f_1 results6 ?_
  exact ⟨rfl, u_d⟩
 refine go ?_
 refine x_c func24 rfl rfl (Code_c n _) ?_
 rintro _ w235 ⟨rfl, u236⟩ zu236
 have E238 := Sc.mk (E0.u.nx u236)
 refine go ?_
 refine t_splitp 36 rfl (fun g36 => ?_) (fun g36 => ?_)
 ·
  have hcR : codeR n = ([], 3) := by unfold codeR; rw [if_neg (by omega)]
  iterate 9 refine st1 ?_
  refine t_same 40 (v := .int .i64 3) rfl (by rw [hcR]) ?_
  iterate 3 refine st1 ?_
  refine t_same 43 (v := .string (strB ([]))) rfl (by rw [hcR]) (t_bo (Bo.neS ([]) ([])) rfl rfl rfl rfl (t_same 44 (v := .bool false) rfl (congrArg Value.bool (decide_eq_false (fun h => h rfl))) ?_))
  refine go ?_
  refine x_c func26 rfl rfl (Decode_c s _ (by omega)) ?_
  rintro _ w244 ⟨rfl, u245⟩ zu245
  refine go ?_
  refine x_c func27 rfl rfl (rDecode_c s _ (by omega)) ?_
  rintro _ w250 ⟨rfl, u251⟩ zu251
  iterate 15 refine st1 ?_
  refine t_samehd (v := .bool false) (by simp) ?_
  iterate 4 refine st1 ?_
  refine t_samehd (v := .bool false) (by simp) ?_
  iterate 5 refine st1 ?_
  refine t_samehd (v := .bool false) (by simp) ?_
  refine go ?_
  refine t_toB underlying9 underlying25 underlying5 rfl rfl rfl (fun bk257 cp258 w259 ebk257 sbk257 B260 u261 => ?_)
  refine go ?_
  refine x_c func28 rfl rfl (Weigh_c s (some ⟨bk257, 0, none⟩) bk257 0 cp258 by_ _ (B260.sl) (by omega)) ?_
  rintro _ w264 ⟨rfl, u265⟩ zu265
  have E267 := Sc.mk ((((E238.u.nx u245).nx u251).nx u261).nx u265)
  refine go ?_
  refine t_lenS underlying9 rfl rfl rfl rfl ?_
  refine go ?_
  refine q_p (fun g88 => ?_) fun g88 => ?_
  ·
   have hwR : WeighR s by_ = (0, 5) := by unfold WeighR; rw [if_pos (by omega)]
   iterate 3 refine st1 ?_
   refine t_same 89 (v := .int .i64 5) rfl (by rw [hwR]) ?_
   iterate 3 refine st1 ?_
   refine t_same 92 (v := .int .i64 0) rfl (by rw [hwR]) ?_
   refine go ?_
   refine x_c func13 rfl rfl (known_c _ (hT.ext E267.u) (by omega)) ?_
   rintro _ w272 ⟨rfl, u273⟩ zu273
   refine go ?_
   refine f_1 results6 ?_
   exact ⟨rfl, u_d⟩
  refine go ?_
  refine t_splitp 100 rfl (fun g100 => ?_) (fun g100 => ?_)
  ·
   have hwR : WeighR s by_ = (0, 3) := by unfold WeighR; rw [if_neg (by omega), if_neg (by omega)]
   iterate 9 refine st1 ?_
   refine t_same 104 (v := .int .i64 3) rfl (by rw [hwR]) ?_
   iterate 3 refine st1 ?_
   refine t_same 107 (v := .int .i64 0) rfl (by rw [hwR]) ?_
   refine go ?_
   refine x_c func13 rfl rfl (known_c _ (hT.ext E267.u) (by omega)) ?_
   rintro _ w280 ⟨rfl, u281⟩ zu281
   refine go ?_
   refine f_1 results6 ?_
   exact ⟨rfl, u_d⟩
  refine go ?_
  refine q_p (fun g103 => ?_) fun g103 => ?_
  ·
   have hwR : WeighR s by_ = (0, 3) := by unfold WeighR; rw [if_neg (by omega), if_neg (by omega)]
   iterate 3 refine st1 ?_
   refine t_same 104 (v := .int .i64 3) rfl (by rw [hwR]) ?_
   iterate 3 refine st1 ?_
   refine t_same 107 (v := .int .i64 0) rfl (by rw [hwR]) ?_
   refine go ?_
   refine x_c func13 rfl rfl (known_c _ (hT.ext E267.u) (by omega)) ?_
   rintro _ w286 ⟨rfl, u287⟩ zu287
   refine go ?_
   refine f_1 results6 ?_
   exact ⟨rfl, u_d⟩
  have hwR : WeighR s by_ = (weighP s by_, 0) := by unfold WeighR; rw [if_neg (by omega), if_pos (by omega)]
  iterate 5 refine st1 ?_
  refine t_same 113 (v := .int .i64 0) rfl (by rw [hwR]) ?_
  iterate 3 refine st1 ?_
  refine t_same 116 (v := .int .i64 (weighP s by_)) rfl (by rw [hwR]) ?_
  refine go ?_
  refine t_toB underlying9 underlying25 underlying5 rfl rfl rfl (fun bk291 cp292 w293 ebk291 sbk291 B294 u295 => ?_)
  refine go ?_
  refine x_c func29 rfl rfl (rWeigh_c s (some ⟨bk291, 0, none⟩) bk291 0 cp292 by_ _ (B294.sl) (by omega) (by omega)) ?_
  rintro _ w298 ⟨rfl, u299⟩ zu299
  refine st1 ?_
  refine t_samehd (v := .bool true) (by simp) ?_
  refine go ?_
  refine x_c func13 rfl rfl (known_c _ (hT.ext ((E267.u.nx u295).nx u299)) (by omega)) ?_
  rintro _ w303 ⟨rfl, u304⟩ zu304
  refine go ?_
  refine f_1 results6 ?_
  exact ⟨rfl, u_d⟩
 refine go ?_
 refine q_p (fun g39 => ?_) fun g39 => ?_
 ·
  have hcR : codeR n = ([], 3) := by unfold codeR; rw [if_neg (by omega)]
  iterate 3 refine st1 ?_
  refine t_same 40 (v := .int .i64 3) rfl (by rw [hcR]) ?_
  iterate 3 refine st1 ?_
  refine t_same 43 (v := .string (strB ([]))) rfl (by rw [hcR]) (t_bo (Bo.neS ([]) ([])) rfl rfl rfl rfl (t_same 44 (v := .bool false) rfl (congrArg Value.bool (decide_eq_false (fun h => h rfl))) ?_))
  refine go ?_
  refine x_c func26 rfl rfl (Decode_c s _ (by omega)) ?_
  rintro _ w310 ⟨rfl, u311⟩ zu311
  refine go ?_
  refine x_c func27 rfl rfl (rDecode_c s _ (by omega)) ?_
  rintro _ w316 ⟨rfl, u317⟩ zu317
  iterate 15 refine st1 ?_
  refine t_samehd (v := .bool false) (by simp) ?_
  iterate 4 refine st1 ?_
  refine t_samehd (v := .bool false) (by simp) ?_
  iterate 5 refine st1 ?_
  refine t_samehd (v := .bool false) (by simp) ?_
  refine go ?_
  refine t_toB underlying9 underlying25 underlying5 rfl rfl rfl (fun bk323 cp324 w325 ebk323 sbk323 B326 u327 => ?_)
  refine go ?_
  refine x_c func28 rfl rfl (Weigh_c s (some ⟨bk323, 0, none⟩) bk323 0 cp324 by_ _ (B326.sl) (by omega)) ?_
  rintro _ w330 ⟨rfl, u331⟩ zu331
  have E333 := Sc.mk ((((E238.u.nx u311).nx u317).nx u327).nx u331)
  refine go ?_
  refine t_lenS underlying9 rfl rfl rfl rfl ?_
  refine go ?_
  refine q_p (fun g88 => ?_) fun g88 => ?_
  ·
   have hwR : WeighR s by_ = (0, 5) := by unfold WeighR; rw [if_pos (by omega)]
   iterate 3 refine st1 ?_
   refine t_same 89 (v := .int .i64 5) rfl (by rw [hwR]) ?_
   iterate 3 refine st1 ?_
   refine t_same 92 (v := .int .i64 0) rfl (by rw [hwR]) ?_
   refine go ?_
   refine x_c func13 rfl rfl (known_c _ (hT.ext E333.u) (by omega)) ?_
   rintro _ w338 ⟨rfl, u339⟩ zu339
   refine go ?_
   refine f_1 results6 ?_
   exact ⟨rfl, u_d⟩
  refine go ?_
  refine t_splitp 100 rfl (fun g100 => ?_) (fun g100 => ?_)
  ·
   have hwR : WeighR s by_ = (0, 3) := by unfold WeighR; rw [if_neg (by omega), if_neg (by omega)]
   iterate 9 refine st1 ?_
   refine t_same 104 (v := .int .i64 3) rfl (by rw [hwR]) ?_
   iterate 3 refine st1 ?_
   refine t_same 107 (v := .int .i64 0) rfl (by rw [hwR]) ?_
   refine go ?_
   refine x_c func13 rfl rfl (known_c _ (hT.ext E333.u) (by omega)) ?_
   rintro _ w346 ⟨rfl, u347⟩ zu347
   refine go ?_
   refine f_1 results6 ?_
   exact ⟨rfl, u_d⟩
  refine go ?_
  refine q_p (fun g103 => ?_) fun g103 => ?_
  ·
   have hwR : WeighR s by_ = (0, 3) := by unfold WeighR; rw [if_neg (by omega), if_neg (by omega)]
   iterate 3 refine st1 ?_
   refine t_same 104 (v := .int .i64 3) rfl (by rw [hwR]) ?_
   iterate 3 refine st1 ?_
   refine t_same 107 (v := .int .i64 0) rfl (by rw [hwR]) ?_
   refine go ?_
   refine x_c func13 rfl rfl (known_c _ (hT.ext E333.u) (by omega)) ?_
   rintro _ w352 ⟨rfl, u353⟩ zu353
   refine go ?_
   refine f_1 results6 ?_
   exact ⟨rfl, u_d⟩
  have hwR : WeighR s by_ = (weighP s by_, 0) := by unfold WeighR; rw [if_neg (by omega), if_pos (by omega)]
  iterate 5 refine st1 ?_
  refine t_same 113 (v := .int .i64 0) rfl (by rw [hwR]) ?_
  iterate 3 refine st1 ?_
  refine t_same 116 (v := .int .i64 (weighP s by_)) rfl (by rw [hwR]) ?_
  refine go ?_
  refine t_toB underlying9 underlying25 underlying5 rfl rfl rfl (fun bk357 cp358 w359 ebk357 sbk357 B360 u361 => ?_)
  refine go ?_
  refine x_c func29 rfl rfl (rWeigh_c s (some ⟨bk357, 0, none⟩) bk357 0 cp358 by_ _ (B360.sl) (by omega) (by omega)) ?_
  rintro _ w364 ⟨rfl, u365⟩ zu365
  refine st1 ?_
  refine t_samehd (v := .bool true) (by simp) ?_
  refine go ?_
  refine x_c func13 rfl rfl (known_c _ (hT.ext ((E333.u.nx u361).nx u365)) (by omega)) ?_
  rintro _ w369 ⟨rfl, u370⟩ zu370
  refine go ?_
  refine f_1 results6 ?_
  exact ⟨rfl, u_d⟩
 have hcR : codeR n = (codeP n.toNat, 0) := by unfold codeR; rw [if_pos (by omega)]
 iterate 3 refine st1 ?_
 refine t_same 46 (v := .int .i64 0) rfl (by rw [hcR]) ?_
 iterate 3 refine st1 ?_
 refine t_same 49 (v := .string (strB (codeP n.toNat))) rfl (by rw [hcR]) ?_
 refine go ?_
 refine x_c func25 rfl rfl (by have h9 := rCode_c n.toNat w235 (by omega); rw [Int.toNat_of_nonneg (by omega)] at h9; exact h9) ?_
 rintro _ w375 ⟨rfl, u376⟩ zu376
 refine t_bo (Bo.neS (codeP n.toNat) (codeP n.toNat)) rfl rfl rfl rfl (t_same 52 (v := .bool false) rfl (congrArg Value.bool (decide_eq_false (fun h => h rfl))) ?_)
 refine go ?_
 refine x_c func26 rfl rfl (Decode_c s _ (by omega)) ?_
 rintro _ w381 ⟨rfl, u382⟩ zu382
 refine go ?_
 refine x_c func27 rfl rfl (rDecode_c s _ (by omega)) ?_
 rintro _ w387 ⟨rfl, u388⟩ zu388
 iterate 15 refine st1 ?_
 refine t_samehd (v := .bool false) (by simp) ?_
 iterate 4 refine st1 ?_
 refine t_samehd (v := .bool false) (by simp) ?_
 iterate 5 refine st1 ?_
 refine t_samehd (v := .bool false) (by simp) ?_
 refine go ?_
 refine t_toB underlying9 underlying25 underlying5 rfl rfl rfl (fun bk394 cp395 w396 ebk394 sbk394 B397 u398 => ?_)
 refine go ?_
 refine x_c func28 rfl rfl (Weigh_c s (some ⟨bk394, 0, none⟩) bk394 0 cp395 by_ _ (B397.sl) (by omega)) ?_
 rintro _ w401 ⟨rfl, u402⟩ zu402
 have E404 := Sc.mk (((((E238.u.nx u376).nx u382).nx u388).nx u398).nx u402)
 refine go ?_
 refine t_lenS underlying9 rfl rfl rfl rfl ?_
 refine go ?_
 refine q_p (fun g88 => ?_) fun g88 => ?_
 ·
  have hwR : WeighR s by_ = (0, 5) := by unfold WeighR; rw [if_pos (by omega)]
  iterate 3 refine st1 ?_
  refine t_same 89 (v := .int .i64 5) rfl (by rw [hwR]) ?_
  iterate 3 refine st1 ?_
  refine t_same 92 (v := .int .i64 0) rfl (by rw [hwR]) ?_
  refine go ?_
  refine x_c func13 rfl rfl (known_c _ (hT.ext E404.u) (by omega)) ?_
  rintro _ w409 ⟨rfl, u410⟩ zu410
  refine go ?_
  refine f_1 results6 ?_
  exact ⟨rfl, u_d⟩
 refine go ?_
 refine t_splitp 100 rfl (fun g100 => ?_) (fun g100 => ?_)
 ·
  have hwR : WeighR s by_ = (0, 3) := by unfold WeighR; rw [if_neg (by omega), if_neg (by omega)]
  iterate 9 refine st1 ?_
  refine t_same 104 (v := .int .i64 3) rfl (by rw [hwR]) ?_
  iterate 3 refine st1 ?_
  refine t_same 107 (v := .int .i64 0) rfl (by rw [hwR]) ?_
  refine go ?_
  refine x_c func13 rfl rfl (known_c _ (hT.ext E404.u) (by omega)) ?_
  rintro _ w417 ⟨rfl, u418⟩ zu418
  refine go ?_
  refine f_1 results6 ?_
  exact ⟨rfl, u_d⟩
 refine go ?_
 refine q_p (fun g103 => ?_) fun g103 => ?_
 ·
  have hwR : WeighR s by_ = (0, 3) := by unfold WeighR; rw [if_neg (by omega), if_neg (by omega)]
  iterate 3 refine st1 ?_
  refine t_same 104 (v := .int .i64 3) rfl (by rw [hwR]) ?_
  iterate 3 refine st1 ?_
  refine t_same 107 (v := .int .i64 0) rfl (by rw [hwR]) ?_
  refine go ?_
  refine x_c func13 rfl rfl (known_c _ (hT.ext E404.u) (by omega)) ?_
  rintro _ w423 ⟨rfl, u424⟩ zu424
  refine go ?_
  refine f_1 results6 ?_
  exact ⟨rfl, u_d⟩
 have hwR : WeighR s by_ = (weighP s by_, 0) := by unfold WeighR; rw [if_neg (by omega), if_pos (by omega)]
 iterate 5 refine st1 ?_
 refine t_same 113 (v := .int .i64 0) rfl (by rw [hwR]) ?_
 iterate 3 refine st1 ?_
 refine t_same 116 (v := .int .i64 (weighP s by_)) rfl (by rw [hwR]) ?_
 refine go ?_
 refine t_toB underlying9 underlying25 underlying5 rfl rfl rfl (fun bk428 cp429 w430 ebk428 sbk428 B431 u432 => ?_)
 refine go ?_
 refine x_c func29 rfl rfl (rWeigh_c s (some ⟨bk428, 0, none⟩) bk428 0 cp429 by_ _ (B431.sl) (by omega) (by omega)) ?_
 rintro _ w435 ⟨rfl, u436⟩ zu436
 refine st1 ?_
 refine t_samehd (v := .bool true) (by simp) ?_
 refine go ?_
 refine x_c func13 rfl rfl (known_c _ (hT.ext ((E404.u.nx u432).nx u436)) (by omega)) ?_
 rintro _ w440 ⟨rfl, u441⟩ zu441
 refine go ?_
 refine f_1 results6 ?_
 exact ⟨rfl, u_d⟩

end Go.Proofs.YtjdcpnaocjddoaaGreatDoor
namespace Go.Proofs.YtjdcpnaocjddoaaGreatDoor
open Go Go.RowKit
/-! ### the witness: a world in which the listed variables hold what is told of them -/
def litC : DataW Unit → Value
  | .lit (.int k n) => .int k n
  | _ => .int .i64 0
def aggC : DataW Unit → List Value
  | .agg l => l.map litC
  | _ => []
def aggD : DataW Unit → List Value
  | .agg l => l.flatMap aggC
  | _ => []
def strC : DataW Unit → Value
  | .iface _ (.ptr (.agg [.lit (.string s)])) => .string ⟨s.toArray⟩
  | _ => .int .i64 0
def setC (cs : List Value) : Obj → Obj
  | .cells _ t f => .cells cs.toArray t f
  | o => o
noncomputable def laidWorld (os : Os) : World :=
  { World.holding Tryz.prog os ⟨#[], #[], []⟩ with heap := (((((((((World.holding Tryz.prog os ⟨#[], #[], []⟩).heap.modify 6 (setC (aggC Rows.laid_math_bits_deBruijn32tab))).modify 7 (setC (aggC Rows.laid_math_bits_deBruijn64tab))).modify 5 (setC (aggC Rows.laid_internal_strconv_uint64pow10))).modify 4 (setC (aggD Rows.laid_unicode_utf8_acceptRanges))).modify 3 (setC (aggC Rows.laid_unicode_utf8_first))).modify 2 (setC [.iface 261 (.pointer (some ⟨13, 0, none⟩))])).modify 1 (setC [.iface 261 (.pointer (some ⟨14, 0, none⟩))])).push (.cells #[strC Rows.laid_strconv_ErrRange] 263 (0, 0))).push (.cells #[strC Rows.laid_strconv_ErrSyntax] 263 (0, 0)) }
theorem laid_met (os : Os) (args : Array Value) : laidMet Tryz.prog Rows.logsCodesRow.laid ((laidWorld os).forCall (fun _ _ => 0) ⟨#[], args, []⟩).memory :=
  laidMet_of_run' 8 (by kernel_rfl) (by kernel_rfl)
theorem glob5 : Tryz.prog.globalNamed "internal/strconv.uint64pow10" = some 5 := by kernel_rfl
theorem glob5t : (Tryz.prog.globals[5]?).map (·.type) = some 266 := by kernel_rfl
theorem tab_of_laid {W : World} (h : laidMet Tryz.prog Rows.logsCodesRow.laid W) : Tab10 W := by
  have e : (Rows.laid_internal_strconv_uint64pow10 : DataW Unit) = Lib.tabData .u64 Lib.pow10Tab := by kernel_rfl
  obtain ⟨ps, ⟨_, _, _, _, _, _, _, _, _, _, ⟨_, _, _, _, _, _, _, _, _, _, ⟨g', t', cs, fuel, p, q, hg', ht', hvar, hd, _, _⟩, _⟩, _⟩, _⟩ := h
  obtain rfl := Option.some.inj (glob5.symm.trans hg')
  obtain rfl := Option.some.inj (glob5t.symm.trans ht')
  unfold Tab10 Lib.TabIs
  rw [hvar, ← Lib.cells_of_tab (t := 266) (e := 214) (n := 20) (k := .u64) (zs := Lib.pow10Tab) Tryz.underlying266 Tryz.underlying214 (by kernel_rfl) (by kernel_rfl) (by rw [← e]; exact hd)]
theorem tab_pos {w : World} (h : Tab10 w) : 0 < w.heap.size := by
  unfold Tab10 Lib.TabIs World.var? at h
  rw [glob5] at h
  simp only [Option.bind_some] at h
  rcases Nat.lt_or_ge 5 w.heap.size with q | q
  · omega
  · rw [Array.getElem?_eq_none q] at h; cases h

end Go.Proofs.YtjdcpnaocjddoaaGreatDoor
namespace Go.Proofs.YtjdcpnaocjddoaaGreatDoor
open Go Go.ChangeShapes Go.WideShapes Go.ChangeAt Go.RowKit
set_option linter.unusedVariables false
theorem rd3 {H : Type} {enc : TypeId × Value → H} {w : World} {cs : List Value} (h : Rd enc Tryz.prog w 3 cs) : ∃ (n0 : Int), cs = [.int .i64 n0] ∧ ((-9223372036854775808 ≤ n0 ∧ n0 ≤ 9223372036854775807)) := h.int Tryz.underlying3


theorem ownLogsCodes : ownKnob Tryz.prog.godebug = none := by kernel_rfl
theorem laidOutLogsCodes : laidOutB Tryz.prog = true := by kernel_rfl
set_option maxHeartbeats 1000000 in
set_option maxRecDepth 100000 in
theorem liftedLogsCodes (os : Os) (started : os.Started) (H : Type) (enc : TypeId × Value → H) :
    ReturnsInHanded {} Tryz.checked os 6 .any (fun w args => (Rows.logsCodesSpec.pre enc Tryz.prog Tryz.f6 Rows.logsCodesRow.domain false w args ∧ laidMet Tryz.prog Rows.logsCodesRow.laid w) ∧ sizedMet enc Tryz.prog Tryz.f6 (OpenSpec.ofChange Rows.logsCodesSpec) false w args) (Rows.logsCodesSpec.post enc Tryz.prog Tryz.f6 false true false false) := by
  refine returnsInHanded_of_change_and (C := Tryz.checked) (X := fun w _ => laidMet Tryz.prog Rows.logsCodesRow.laid w) (fun _ _ _ hh h => h.of_heap hh) ownLogsCodes started (by kernel_rfl) Tryz.func6
    (ChangeSpec.witness_at (enc := enc) (C := Tryz.checked) (os := os) (X := fun w _ => laidMet Tryz.prog Rows.logsCodesRow.laid w) false (laidWorld os) #[.int .i64 0, .string ⟨#[]⟩, .int .i64 0] 8 rfl (by kernel_rfl) (by kernel_rfl) (by kernel_rfl) (by kernel_rfl) (by kernel_rfl) (laid_met os _)) ?_
  intro W base args ds gs before hval0 hW hcnd _ hL _
  have hval : ∀ (j : Nat) t v, Tryz.f6.params[j]? = some t → args[j]? = some v → Value.okWide Tryz.prog W .any base t v := hval0
  have hW' := hW
  obtain ⟨p, q, hA0, hV, rfl, hfz, hnd⟩ := hW
  have hA : DataW.TrodAll enc Tryz.prog W 0 (fun _ => true) true Tryz.f6.params.toList args.toList ds p := hA0
  rw [Tryz.params6] at hA hval
  obtain ⟨v0, vs0, d0, ds0, p0, q0, hargs, rfl, rfl, h0, r0⟩ := trodAll_cons hA
  obtain ⟨v1, vs1, d1, ds1, p1, q1, rfl, rfl, rfl, h1, r1⟩ := trodAll_cons r0
  obtain ⟨v2, vs2, d2, ds2, p2, q2, rfl, rfl, rfl, h2, r2⟩ := trodAll_cons r1
  obtain ⟨rfl, rfl, rfl⟩ := trodAll_nil r2
  obtain rfl : args = #[v0, v1, v2] := by cases args; simp_all
  obtain ⟨rfl, rfl⟩ := trodVars_none hV
  have k0 := h0
  have lt0 : ∀ x ∈ p0, x.block < W.heap.size := by obtain ⟨m, hm⟩ := k0; exact DataW.trod_lt m _ _ _ hm
  obtain ⟨nn0, rfl⟩ := okWide_int Tryz.underlying3 (hval 0 3 v0 rfl rfl)
  obtain ⟨n0_p0, ce0, f0_p0⟩ := rd3 (Rd.of h0)
  simp [Value.cells] at ce0
  obtain rfl := ce0.symm
  have k1 := h1
  have lt1 : ∀ x ∈ p1, x.block < W.heap.size := by obtain ⟨m, hm⟩ := k1; exact DataW.trod_lt m _ _ _ hm
  obtain ⟨ss0_p1, rfl, rfl, rfl, ws1⟩ := Go.ChangeMaps.open_string Tryz.underlying9 (hval 1 9 v1 rfl rfl) h1
  have k2 := h2
  have lt2 : ∀ x ∈ p2, x.block < W.heap.size := by obtain ⟨m, hm⟩ := k2; exact DataW.trod_lt m _ _ _ hm
  obtain ⟨nn2, rfl⟩ := okWide_int Tryz.underlying3 (hval 2 3 v2 rfl rfl)
  obtain ⟨n0_p2, ce2, f0_p2⟩ := rd3 (Rd.of h2)
  simp [Value.cells] at ce2
  obtain rfl := ce2.symm
  clear hA0 hval0
  refine Calls.mono ((by have h9 := LogsCodes_c n0_p0 ss0_p1.data.toList n0_p2 W (tab_of_laid hL) (tab_pos (tab_of_laid hL)); rw [strB_of] at h9; exact h9)) fun e W' hv => ?_
  obtain ⟨v, rfl, rfl, ext⟩ := hv
  have bel := Ext.below ext
  exact ⟨_, rfl, _, _, _, [], _, [], hW', trodAll_mk1 (shut_bool Tryz.underlying4 _), (trodAll_cons_mk (Below.trod laidOutLogsCodes (by kernel_rfl) (of_decide_eq_true (by kernel_rfl)) k0 bel lt0) (trodAll_cons_mk (Below.trod laidOutLogsCodes (by kernel_rfl) (of_decide_eq_true (by kernel_rfl)) k1 bel lt1) (trodAll_cons_mk (Below.trod laidOutLogsCodes (by kernel_rfl) (of_decide_eq_true (by kernel_rfl)) k2 bel lt2) trodAll_mk0))), rfl, bel.frame _, fun h => by cases h⟩

theorem overLogsCodes : Rows.logsCodesRow.holds Tryz.pinned (OpenSpec.ofChange Rows.logsCodesSpec) :=
  OpenClaim.holds_of_wide 6 Tryz.f6 rfl rfl rfl rfl rfl rfl rfl ⟨rfl, rfl, rfl, rfl, rfl⟩ rfl rfl rfl rfl rfl (by kernel_rfl) Tryz.func6 (by kernel_rfl)
    (of_decide_eq_true (by kernel_rfl)) (by unfold Func.isWrapper; first | (rw [if_pos (by decide +kernel)]; kernel_rfl) | (rw [if_neg (by decide +kernel)]; exact ⟨rfl, rfl⟩))
    (fun os started H enc _ => liftedLogsCodes os started H enc)
theorem provedLogsCodes : Rows.LogsCodesSaid := overLogsCodes
#print axioms provedLogsCodes
end Go.Proofs.YtjdcpnaocjddoaaGreatDoor
