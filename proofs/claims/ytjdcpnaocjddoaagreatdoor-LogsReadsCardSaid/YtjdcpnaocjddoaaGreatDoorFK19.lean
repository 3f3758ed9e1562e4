/-
  Part 19 of the proof: contracts and plain laws. Conditions: none.
-/
import Derived.Test.YtjdcpnaocjddoaaGreatDoorRows
import Derived.Handed
import Derived.LaidLaws
import Derived.Lib.LaidTab
import Derived.Test.YtjdcpnaocjddoaaGreatDoorFK18
namespace Go.Proofs.YtjdcpnaocjddoaaGreatDoor
open Go Go.RowKit Go.Proofs.Tryz
theorem fixG_len : ∀ (l : List Nat) (p : Int) (u v : List Bk), fixG p u l = some v → v.length = u.length
  | [], p, u, v, h => by
    have h9 : some u = some v := h
    injection h9 with h9
    rw [h9]
  | k :: l, p, u, v, h => by
    by_cases q : ((gF k : Nat) : Int) ≤ p
    · rw [fix_none q] at h; cases h
    · rw [fix_step q] at h
      have := fixG_len l _ _ _ h
      rw [this, List.length_set]
theorem repR_len (xs : List UInt8) : (repR xs).1.length ≤ xs.length ∧ (repR xs).2.1.length ≤ xs.length := by
  unfold repR
  split
  · exact ⟨Nat.zero_le _, Nat.zero_le _⟩
  · rename_i h
    have h0 : opE xs = 0 := by omega
    have hb := congrArg List.length (opP_bytes h0)
    rw [bytesP_len] at hb
    split
    · exact ⟨Nat.zero_le _, Nat.zero_le _⟩
    · rename_i v hv
      have h1 := fixG_len _ _ _ _ hv
      have h2 := badP_le (opP xs)
      refine ⟨?_, ?_⟩
      · show (bytesP v).length ≤ _
        rw [bytesP_len]; omega
      · show (nats (badP (opP xs))).length ≤ _
        rw [nats_len]; omega
theorem readR_len (xs : List UInt8) : (readR xs).1.length ≤ 2000 := by
  unfold readR
  split
  · exact Nat.zero_le _
  · split
    · exact Nat.zero_le _
    · split
      · exact Nat.zero_le _
      · rename_i h
        exact (chkE_ok (Decidable.not_not.1 (fun h9 => h (.inr (.inl h9))))).2.1
set_option maxHeartbeats 4000000 in
theorem LogsReads_c (xs : List UInt8) (ab : Option Addr) (bb ob cb : Nat) (w0 : World) (hs : Sl encY 1 w0 ab bb ob xs) (hcb : xs.length ≤ cb) (hT : Tab10 w0) (hpos : 0 < w0.heap.size) :
    CallsV Tryz.prog 8 [.slice ab xs.length cb] w0 (fun v w' => v = .bool true ∧ Ext w0 w') := by
 refine f_n func8 ?_
 iterate 6 refine st1 ?_
 refine x_k1 (fun _ => False) [0] (fun (z9 : Bool) => [(28, .bool z9)]) (fun z9 w => (z9 = decide ((640 < xs.length ∧ xs.length ≤ 41600) ∨ 41700 < xs.length))) (fun K7 hK7 => ?_) ?_
 ·
  refine go ?_
  refine t_splitp 19 rfl (fun g19 => ?_) (fun g19 => ?_)
  ·
   refine go ?_
   refine t_splitp 24 rfl (fun g24 => ?_) (fun g24 => ?_)
   ·
    refine go ?_
    exact hK7 true (by first | exact (decide_eq_false (by omega)).symm | exact (decide_eq_true (by omega)).symm | exact decide_eq_decide.2 (by omega))
   refine go ?_
   exact hK7 (decide (41700 < (xs.length : Int))) (by first | exact (decide_eq_false (by omega)).symm | exact (decide_eq_true (by omega)).symm | exact decide_eq_decide.2 (by omega))
  refine go ?_
  exact hK7 (decide (41700 < (xs.length : Int))) (by first | exact (decide_eq_false (by omega)).symm | exact (decide_eq_true (by omega)).symm | exact decide_eq_decide.2 (by omega))
 rintro z9 w8 hz9 u9 zu9
 have E10 := Sc.mk ((Upd.refl (fun _ => False) w0).nx u9)
 refine q_b (fun g28 => ?_) fun g28 => ?_
 ·
  have hzb : ((640 < xs.length ∧ xs.length ≤ 41600) ∨ 41700 < xs.length) := by rw [hz9] at g28; exact of_decide_eq_true g28
  refine go ?_
  refine x_c func13 rfl rfl (known_c _ (hT.ext E10.u) (by omega)) ?_
  rintro _ w13 ⟨rfl, u14⟩ zu14
  refine go ?_
  refine f_1 results8 ?_
  exact ⟨rfl, u_d⟩
 have hzb : ¬ ((640 < xs.length ∧ xs.length ≤ 41600) ∨ 41700 < xs.length) := by rw [hz9] at g28; exact of_decide_eq_false g28
 obtain ⟨hr1, hr2⟩ := repR_len xs
 have hr3 := readR_len xs
 refine go ?_
 refine x_l fun bk18 w19 ebk18 sbk18 B20 u21 => ?_
 have E22 := Sc.mk (E10.u.nx u21)
 refine go ?_
 refine t_copy (enc := encY) (z := .int .u8 0) (bytes := 1) (k := 1) (ys := xs) underlying25 (by kernel_rfl) rfl (by decide) (fun _ => rfl) (by intro x; simp [encY, Value.oneCell']) rfl rfl rfl rfl B20 (hs.keep E22.u (fun _ h => h)) (by omega) (by decide) (fun ao23 gb24 cp25 w26 A27 u28 gegb24 => ?_)
 have zu28 := u28.size
 have lt_gb24 := A27.lt
 refine go ?_
 refine x_c func34 rfl rfl (ReadLog_c xs ao23 gb24 0 cp25 _ (A27.sl (fun _ => rfl)) (by have h9 := (A27).cap_le; omega) (by omega) (by omega)) ?_
 rintro _ w32 ⟨⟨aA, gA, cA, rfl, hXA⟩, u33⟩ zu33
 have lt_gA := hXA.lt
 refine go ?_
 have D37 := (A27.keep u33 (fun _ h => h))
 refine x_c func32 rfl rfl (Repair_c xs ao23 gb24 0 cp25 _ (D37.sl (fun _ => rfl)) (by have h9 := (D37).cap_le; omega) (by omega) (by omega)) ?_
 rintro _ w39 ⟨⟨aB, gB, cB, eB, iB, dB, rfl, hXB, hIB⟩, u40⟩ zu40
 have E42 := Sc.mk (((E22.u.next u28 (fun i hi h => by omega)).nx u33).nx u40)
 have lt_gB := hXB.lt
 have lt_iB := hIB.lt
 refine go ?_
 have D45 := (D37.keep u40 (fun _ h => h))
 refine x_c func18 rfl rfl (rSame_c xs xs ao23 gb24 0 cp25 ab bb ob cb _ (D45.sl (fun _ => rfl)) (hs.keep E42.u (fun _ h => h)) (by omega)) ?_
 rintro _ w47 ⟨rfl, u48⟩ zu48
 have E50 := Sc.mk (E42.u.nx u48)
 refine t_same 47 (v := .bool true) rfl (congrArg Value.bool (decide_eq_true (by rfl))) ?_
 refine go ?_
 refine x_c func35 rfl rfl (rRead_c xs ab bb ob cb _ (hs.keep E50.u (fun _ h => h)) hcb (by omega) (by omega)) ?_
 rintro _ w53 ⟨⟨aC, gC, cC, rfl, hXC⟩, u54⟩ zu54
 have E56 := Sc.mk (E50.u.nx u54)
 have lt_gC := hXC.lt
 refine go ?_
 refine x_c func36 rfl rfl (rRepair_c xs ab bb ob cb _ (hs.keep E56.u (fun _ h => h)) hcb (by omega) (by omega)) ?_
 rintro _ w59 ⟨⟨aD, gD, cD, eD, iD, dD, rfl, hXD, hID⟩, u60⟩ zu60
 have lt_gD := hXD.lt
 have lt_iD := hID.lt
 iterate 14 refine st1 ?_
 refine t_samehd (v := .bool true) (by simp) ?_
 iterate 4 refine st1 ?_
 refine t_samehd (v := .bool true) (by simp) ?_
 refine go ?_
 have D64 := ((((hXA.keep u40 (fun _ h => h)).keep u48 (fun _ h => h)).keep u54 (fun _ h => h)).keep u60 (fun _ h => h))
 have D65 := (hXC.keep u60 (fun _ h => h))
 refine x_c func16 rfl rfl (same_c ((readR xs).1) ((readR xs).1) aA gA 0 cA aC gC 0 cC _ (D64.sl (fun _ => rfl)) (D65.sl (fun _ => rfl)) (by omega)) ?_
 rintro _ w67 ⟨rfl, u68⟩ zu68
 refine t_same 72 (v := .bool true) rfl (congrArg Value.bool (decide_eq_true (by rfl))) ?_
 iterate 5 refine st1 ?_
 refine t_samehd (v := .bool true) (by simp) ?_
 refine go ?_
 have D71 := ((((hXB.keep u48 (fun _ h => h)).keep u54 (fun _ h => h)).keep u60 (fun _ h => h)).keep u68 (fun _ h => h))
 have D72 := (hXD.keep u68 (fun _ h => h))
 refine x_c func18 rfl rfl (rSame_c ((repR xs).1) ((repR xs).1) aB gB 0 cB aD gD 0 cD _ (D71.sl (fun _ => rfl)) (D72.sl (fun _ => rfl)) (by omega)) ?_
 rintro _ w74 ⟨rfl, u75⟩ zu75
 refine t_same 82 (v := .bool true) rfl (congrArg Value.bool (decide_eq_true (by rfl))) ?_
 refine go ?_
 have D78 := (((((hIB.keep u48 (fun _ h => h)).keep u54 (fun _ h => h)).keep u60 (fun _ h => h)).keep u68 (fun _ h => h)).keep u75 (fun _ h => h))
 have D79 := ((hID.keep u68 (fun _ h => h)).keep u75 (fun _ h => h))
 refine x_c func33 rfl rfl (eqI_c ((repR xs).2.1) eB iB 0 dB eD iD 0 dD _ (D78.sl (fun _ => rfl)) (D79.sl (fun _ => rfl)) (by omega)) ?_
 rintro _ w81 ⟨rfl, u82⟩ zu82
 refine go ?_
 refine x_c func13 rfl rfl (known_c _ (hT.ext ((((E56.u.nx u60).nx u68).nx u75).nx u82)) (by omega)) ?_
 rintro _ w86 ⟨rfl, u87⟩ zu87
 refine go ?_
 refine f_1 results8 ?_
 exact ⟨rfl, u_d⟩

end Go.Proofs.YtjdcpnaocjddoaaGreatDoor
namespace Go.Proofs.YtjdcpnaocjddoaaGreatDoor
open Go Go.RowKit Go.Proofs.Tryz
end Go.Proofs.YtjdcpnaocjddoaaGreatDoor
namespace Go.Proofs.YtjdcpnaocjddoaaGreatDoor
open Go Go.RowKit
/-! ### the witness: a world in which the listed variables hold what is told of them -/
def litC : DataW Unit → Value
  | .lit (.int k n) => .int k n
  | _ => .int .i64 0
def aggC : DataW Unit → List Value
  | .agg l => l.map litC
  | _ => []
def aggD : DataW Unit → List Value
  | .agg l => l.flatMap aggC
  | _ => []
def strC : DataW Unit → Value
  | .iface _ (.ptr (.agg [.lit (.string s)])) => .string ⟨s.toArray⟩
  | _ => .int .i64 0
def setC (cs : List Value) : Obj → Obj
  | .cells _ t f => .cells cs.toArray t f
  | o => o
noncomputable def laidWorld (os : Os) : World :=
  { World.holding Tryz.prog os ⟨#[], #[], []⟩ with heap := (((((((((World.holding Tryz.prog os ⟨#[], #[], []⟩).heap.modify 6 (setC (aggC Rows.laid_math_bits_deBruijn32tab))).modify 7 (setC (aggC Rows.laid_math_bits_deBruijn64tab))).modify 5 (setC (aggC Rows.laid_internal_strconv_uint64pow10))).modify 4 (setC (aggD Rows.laid_unicode_utf8_acceptRanges))).modify 3 (setC (aggC Rows.laid_unicode_utf8_first))).modify 2 (setC [.iface 261 (.pointer (some ⟨13, 0, none⟩))])).modify 1 (setC [.iface 261 (.pointer (some ⟨14, 0, none⟩))])).push (.cells #[strC Rows.laid_strconv_ErrRange] 263 (0, 0))).push (.cells #[strC Rows.laid_strconv_ErrSyntax] 263 (0, 0)) }
theorem laid_met (os : Os) (args : Array Value) : laidMet Tryz.prog Rows.logsCodesRow.laid ((laidWorld os).forCall (fun _ _ => 0) ⟨#[], args, []⟩).memory :=
  laidMet_of_run' 8 (by kernel_rfl) (by kernel_rfl)
theorem glob5 : Tryz.prog.globalNamed "internal/strconv.uint64pow10" = some 5 := by kernel_rfl
theorem glob5t : (Tryz.prog.globals[5]?).map (·.type) = some 266 := by kernel_rfl
theorem tab_of_laid {W : World} (h : laidMet Tryz.prog Rows.logsCodesRow.laid W) : Tab10 W := by
  have e : (Rows.laid_internal_strconv_uint64pow10 : DataW Unit) = Lib.tabData .u64 Lib.pow10Tab := by kernel_rfl
  obtain ⟨ps, ⟨_, _, _, _, _, _, _, _, _, _, ⟨_, _, _, _, _, _, _, _, _, _, ⟨g', t', cs, fuel, p, q, hg', ht', hvar, hd, _, _⟩, _⟩, _⟩, _⟩ := h
  obtain rfl := Option.some.inj (glob5.symm.trans hg')
  obtain rfl := Option.some.inj (glob5t.symm.trans ht')
  unfold Tab10 Lib.TabIs
  rw [hvar, ← Lib.cells_of_tab (t := 266) (e := 214) (n := 20) (k := .u64) (zs := Lib.pow10Tab) Tryz.underlying266 Tryz.underlying214 (by kernel_rfl) (by kernel_rfl) (by rw [← e]; exact hd)]
theorem tab_pos {w : World} (h : Tab10 w) : 0 < w.heap.size := by
  unfold Tab10 Lib.TabIs World.var? at h
  rw [glob5] at h
  simp only [Option.bind_some] at h
  rcases Nat.lt_or_ge 5 w.heap.size with q | q
  · omega
  · rw [Array.getElem?_eq_none q] at h; cases h

end Go.Proofs.YtjdcpnaocjddoaaGreatDoor
