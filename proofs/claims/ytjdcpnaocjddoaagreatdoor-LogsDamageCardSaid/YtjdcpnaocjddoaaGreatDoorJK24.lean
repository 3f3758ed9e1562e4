/-
  Part 24 of the proof: contracts and plain laws. Conditions: none.
-/
import Derived.Test.YtjdcpnaocjddoaaGreatDoorRows
import Derived.Handed
import Derived.LaidLaws
import Derived.Lib.LaidTab
import Derived.SizedLaws
import Derived.Test.YtjdcpnaocjddoaaGreatDoorJK23
namespace Go.Proofs.YtjdcpnaocjddoaaGreatDoor
open Go Go.RowKit Go.Proofs.Tryz
/-! ### a store into the bytes of a text -/
section
variable {rd : Option Nat} {P : Program} {ops : Array Oper} {Q : Exit → Act → World → Prop} {N : Nat} {ds : List Deferred} {rest : List Oper} {L : Slots} {w : World}
variable {ty : TypeId} {pos : String} {aft : Array Edge} {g : Option (Nat × Bool)}
theorem BlkY.store {b : Nat} {t : TypeId} {l : List UInt8} (h : BlkY w b t l) {i : Nat} (hi : i < l.length) (v : UInt8) :
    (store ⟨b, i, none⟩ (.int .u8 (v.toNat : Int))).run P w = .ok () (w.setCell ⟨b, i, none⟩ (.int .u8 (v.toNat : Int))) ∧ BlkY (w.setCell ⟨b, i, none⟩ (.int .u8 (v.toNat : Int))) b t (l.set i v) := by
  obtain ⟨z, f, hb, hf⟩ := h.run
  have hl : (ys l).length = l.length := ys_length l
  have hc : ∃ u, w.cell? ⟨b, i, none⟩ = some u := by
    refine ⟨(ys l)[i]'(by omega), ?_⟩
    simp [World.cell?, hb]
    rw [List.getElem?_append_left (by omega), List.getElem?_eq_getElem (by omega)]
  obtain ⟨u, hu⟩ := hc
  have hfr : w.frozen? ⟨b, i, none⟩ = false := by
    simp only [World.frozen?, hb]
    rw [Bool.and_eq_false_iff]
    left
    exact decide_eq_false (by omega)
  refine ⟨by simp [Go.store, Sem.run, hu, hfr], ⟨z, f, ?_, by rw [List.length_set]; exact hf⟩⟩
  have e : ((ys l ++ z).toArray.setIfInBounds i (.int .u8 (v.toNat : Int))) = (ys (l.set i v) ++ z).toArray := by
    rw [List.setIfInBounds_toArray, List.set_append_left _ _ (by omega)]
    congr 2
    unfold ys
    rw [List.map_set]
  rw [← e]
  simp only [World.setCell, Array.getElem?_modify]
  simp [hb]
theorem t_storeBY {t u : TypeId} {x y : Operand} {b : Nat} {l : List UInt8} {v : UInt8} (i : Nat) (hs : ∀ w, (sizeOf u).run P w = .ok 1 w) (hg : grd ops L g = true)
    (hx : ev L x = some (.pointer (some ⟨b, 0 + i * 1, none⟩))) (hy : ev L y = some (.int .u8 (v.toNat : Int))) (hb : BlkY w b t l) (hl : i < l.length)
    (h : ∀ w', w'.heap.size = w.heap.size → BlkY w' b t (l.set i v) → Upd (· = b) w w' → WL rd P ops Q N ds rest L w') :
    WL rd P ops Q N ds (⟨none, .store u x y, ty, pos, aft, g⟩ :: rest) L w := by
  rw [Nat.zero_add, Nat.mul_one] at hx
  obtain ⟨h1, h2⟩ := hb.store (P := P) hl v
  have h3 : (storeVar u ⟨b, i, none⟩ (.int .u8 (v.toNat : Int))).run P w = .ok () (w.setCell ⟨b, i, none⟩ (.int .u8 (v.toNat : Int))) := by
    simp [storeVar, hs, Value.cells, storeCells, addr_add, h1]
  exact WL.effect (w' := w.setCell ⟨b, i, none⟩ (.int .u8 (v.toNat : Int))) hg rfl (fun a hk => by simp [execOp, hk.ev hx, hk.ev hy, Instr.storeAt, Instr.sureAddr, h3]) (h _ (by simp [World.setCell]) h2 (Upd.setCell w ⟨b, i, none⟩ _))
end
set_option maxHeartbeats 4000000 in
set_option maxRecDepth 20000 in
theorem LogsDamage_c (l : List Ent) (al : Option Addr) (bl ol cl : Nat) (gs : List Gau) (ag : Option Addr) (bg og cg : Nat) (bs : List Bil) (ab : Option Addr) (bb ob cb : Nat) (pn nn : Nat) (z xa xb : UInt8) (w0 : World) (hl : Sl encEnt 6 w0 al bl ol l) (hgs : Sl encGau 3 w0 ag bg og gs) (hbs : Sl encBil 6 w0 ab bb ob bs) (hSG : SlG w0 gs) (hSB : SlB w0 bs) (hll : l.length ≤ 9223372036854775807) (hgl : gs.length ≤ 9223372036854775807) (hbl : bs.length ≤ 9223372036854775807) (hpn : pn ≤ 65535) (hnn : nn ≤ 65535) (hE : ErrV w0) (hT : Tab10 w0) (hpos : 0 < w0.heap.size) :
    CallsV Tryz.prog 11 [.slice al l.length cl, .agg #[.slice ag gs.length cg, .slice ab bs.length cb], .agg #[.int .u16 (pn : Int), .int .u16 (nn : Int), .int .u8 (z.toNat : Int), .int .u8 (xa.toNat : Int), .int .u8 (xb.toNat : Int)]] w0 (fun v w' => v = .bool true ∧ Ext w0 w') := by
 have hxar := xa.toNat_lt
 have hxbr := xb.toNat_lt
 have hzr := z.toNat_lt
 refine f_n func11 ?_
 refine go ?_
 refine x_b fun bk2 w3 ebk2 sbk2 B4 u5 => ?_
 refine x_b fun bk7 w8 ebk7 sbk7 B9 u10 => ?_
 iterate 4 refine st1 ?_
 refine x_k1 (fun _ => False) [0, 4, 5] (fun (z9 : Bool) => [(59, .bool z9)]) (fun z9 w => (z9 = decide (100 < l.length ∨ 30 < gs.length ∨ 30 < bs.length ∨ (z.toNat : Int) = 0))) (fun K17 hK17 => ?_) ?_
 ·
  refine go ?_
  refine t_splitp 43 rfl (fun g43 => ?_) (fun g43 => ?_)
  ·
   refine go ?_
   exact hK17 true (by first | exact (decide_eq_false (by omega)).symm | exact (decide_eq_true (by omega)).symm | exact decide_eq_decide.2 (by omega))
  refine go ?_
  refine t_splitp 49 rfl (fun g49 => ?_) (fun g49 => ?_)
  ·
   refine go ?_
   exact hK17 true (by first | exact (decide_eq_false (by omega)).symm | exact (decide_eq_true (by omega)).symm | exact decide_eq_decide.2 (by omega))
  refine go ?_
  refine t_splitp 55 rfl (fun g55 => ?_) (fun g55 => ?_)
  ·
   refine go ?_
   exact hK17 true (by first | exact (decide_eq_false (by omega)).symm | exact (decide_eq_true (by omega)).symm | exact decide_eq_decide.2 (by omega))
  refine go ?_
  exact hK17 (decide ((z.toNat : Int) = 0)) (by first | exact (decide_eq_false (by omega)).symm | exact (decide_eq_true (by omega)).symm | exact decide_eq_decide.2 (by omega))
 rintro z9 w18 hz9 u19 zu19
 have E20 := Sc.mk ((((Upd.refl (fun _ => False) w0).nx u5).nx u10).nx u19)
 refine q_b (fun g59 => ?_) fun g59 => ?_
 ·
  have hzb : (100 < l.length ∨ 30 < gs.length ∨ 30 < bs.length ∨ (z.toNat : Int) = 0) := by rw [hz9] at g59; exact of_decide_eq_true g59
  refine go ?_
  refine x_c func13 rfl rfl (known_c _ (hT.ext E20.u) (by omega)) ?_
  rintro _ w23 ⟨rfl, u24⟩ zu24
  refine go ?_
  refine f_1 results11 ?_
  exact ⟨rfl, u_d⟩
 have hzb : ¬ (100 < l.length ∨ 30 < gs.length ∨ 30 < bs.length ∨ (z.toNat : Int) = 0) := by rw [hz9] at g59; exact of_decide_eq_false g59
 have hz0 : z ≠ 0 := fun e => hzb (.inr (.inr (.inr (by rw [e]; rfl))))
 iterate 2 refine st1 ?_
 refine x_k1 (fun i => w18.heap.size ≤ i) [4, 5] (fun (u9 : Bool) => []) (fun u9 w => (u9 = true)) (fun K31 hK31 => ?_) ?_
 ·
  refine go ?_
  refine x_c func14 rfl rfl (entries_c l al bl ol cl _ (hl.keep E20.u (fun _ h => h)) (by omega) (by omega)) ?_
  rintro _ w37 ⟨⟨ae35, ge35, ce35, rfl, hFe35⟩, u38⟩ zu38
  have lt_ge35 := hFe35.lt
  refine x_c func15 rfl rfl (WriteV_c l ae35 ge35 0 ce35 _ (hFe35.sl (fun _ => rfl)) (by omega) (by omega)) ?_
  rintro _ w42 ⟨⟨v, aL, gL, cL, rfl, hFL, hv⟩, u43⟩ zu43
  have lt_gL := hFL.lt
  refine go ?_
  refine q_p (fun g68 => ?_) fun g68 => ?_
  ·
   have hok0 : chkE l = 0 := by omega
   rw [if_pos hok0] at hv
   obtain ⟨hgd, hfew⟩ := fill_good (tapeP l)
   have hvf : v = fillP (tapeP l) := hv
   rw [← hvf] at hgd hfew
   have htl := tapeP_len hok0
   have hbv := bytesP_len v
   have hn13 : v.length ≤ 1300 := by omega
   have hcL := hFL.cap_le
   have hn2 := hgd.two
   have hpl := Nat.mod_lt pn (show 0 < (bytesP v).length by omega)
   obtain ⟨k1, hk1⟩ : ∃ k, k = pn % (bytesP v).length / 32 := ⟨_, rfl⟩
   obtain ⟨j1, hj1e⟩ : ∃ j, j = pn % (bytesP v).length % 32 := ⟨_, rfl⟩
   have hR : pn % (bytesP v).length = 32 * k1 + j1 := by rw [hk1, hj1e]; exact (Nat.div_add_mod _ 32).symm
   have hj1 : j1 < 32 := by rw [hj1e]; exact Nat.mod_lt _ (by decide)
   rw [hR] at hpl
   have hk1l : k1 < v.length := by omega
   obtain ⟨t1, ht1⟩ : ∃ t, t = nn % v.length := ⟨_, rfl⟩
   have ht1l : t1 < v.length := by rw [ht1]; exact Nat.mod_lt _ (by omega)
   obtain ⟨b1, hb1⟩ : ∃ b, b = pn % 29 := ⟨_, rfl⟩
   have hb1l : b1 + 1 < 30 := by omega
   obtain ⟨i1, hi1e⟩ : ∃ i, i = xa.toNat % v.length := ⟨_, rfl⟩
   have hi1 : i1 < v.length := by rw [hi1e]; exact Nat.mod_lt _ (by omega)
   obtain ⟨k2, hk2e⟩ : ∃ i, i = xb.toNat % v.length := ⟨_, rfl⟩
   have hk2 : k2 < v.length := by rw [hk2e]; exact Nat.mod_lt _ (by omega)
   iterate 6 refine st1 ?_
   refine t_same 71 (v := .bool false) rfl (congrArg Value.bool (decide_eq_false (by omega))) ?_
   refine go ?_
   refine t_rem rfl rfl rfl rfl (by omega) (by omega) ?_
   refine st1 ?_
   refine t_same 76 (v := .bool false) rfl (congrArg Value.bool (decide_eq_false (by omega))) ?_
   refine go ?_
   refine t_conv underlying89 underlying3 rfl rfl rfl (IntWalk.i64_in _ (by omega)) ?_
   refine go ?_
   refine t_rem rfl rfl rfl rfl (by omega) (by omega) (t_same 83 (v := .int .i64 ((32 * k1 + j1 : Nat) : Int)) rfl (congrArg (Value.int .i64) (by rw [← Int.natCast_emod, hR])) ?_)
   refine go ?_
   refine x_l fun bk51 w52 ebk51 sbk51 B53 u54 => ?_
   refine go ?_
   have D56 := (hFL.keep u54 (fun _ h => h))
   refine t_copy (enc := encY) (z := .int .u8 0) (bytes := 1) (k := 1) (ys := (bytesP v)) underlying25 (by kernel_rfl) rfl (by decide) (fun _ => rfl) (by intro x; simp [encY, Value.oneCell']) rfl rfl rfl rfl B53 (D56.sl (fun _ => rfl)) (by omega) (by decide) (fun ao57 gb58 cp59 w60 A61 u62 gegb58 => ?_)
   have zu62 := u62.size
   have lt_gb58 := A61.lt
   have hcc86 := (A61).cap_le
   refine go ?_
   refine c_drawnM follows (fun i => i = gb58) (OTl [0, 2, 4, 8, 10, 7, 12, 14, 17]) (by kernel_rfl) fun w65 u66 => ?_
   have zu66 := u66.size
   refine go ?_
   have D68 := (A61.keep u66 (fun _ h => h))
   refine y_i (32 * k1 + j1) (D68.sl (fun _ => rfl)) (fun _ => ?_) (hj := (by omega))
   refine go ?_
   refine y_bo (Bo.xor8 (nth (bytesP v) (32 * k1 + j1)) z) rfl rfl rfl rfl ?_
   refine y_i (32 * k1 + j1) (D68.sl (fun _ => rfl)) (fun _ => ?_) (hj := (by omega))
   refine go ?_
   refine t_storeA (vs := [.int .u8 (((nth (bytesP v) (32 * k1 + j1)) ^^^ z).toNat : Int)]) (j := (32 * k1 + j1)) (o' := 0) (k := 1) ((nth (bytesP v) (32 * k1 + j1)) ^^^ z) (fun _ => rfl) sizeOf5 rfl rfl (by omega) rfl D68 (by first | omega | (simp only [List.length_set]; omega)) rfl rfl (by decide) (by simp [Value.oneCell']) rfl (fun w71 R73 u72 => ?_)
   have zu72 := u72.size
   iterate 7 refine st1 ?_
   refine t_same 96 (v := .slice ao57 (List.length ((bytesP v).set (32 * k1 + j1) ((nth (bytesP v) (32 * k1 + j1)) ^^^ z))) cp59) rfl (by rw [List.length_set]) ?_
   refine x_c func34 rfl rfl (ReadLogE_c ((bytesP v).set (32 * k1 + j1) ((nth (bytesP v) (32 * k1 + j1)) ^^^ z)) ao57 gb58 0 cp59 _ (R73.sl (fun _ => rfl)) (by first | omega | (simp only [List.length_set]; omega)) (by first | omega | (simp only [List.length_set]; omega)) (by omega) [] (k1 : Int) 121 (readR_byte hgd hn13 hk1l hj1 (xor_ne hz0))) ?_
   rintro _ w78 ⟨⟨aA, gA, cA, rfl, hXA⟩, u79⟩ zu79
   have lt_gA := hXA.lt
   refine go ?_
   refine t_quo rfl rfl rfl rfl (by omega) (by omega) (t_same 106 (v := .int .i64 (k1 : Int)) rfl (congrArg (Value.int .i64) (by omega)) ?_)
   refine st1 ?_
   refine t_samehd (v := .bool false) (by simp) ?_
   iterate 4 refine st1 ?_
   refine t_same 111 (v := .int .i64 0) rfl rfl ?_
   refine go ?_
   refine c_drawnM follows (fun _ => False) (OTl [0, 2, 4, 6, 8, 10, 12, 14, 16, 18, 20, 22, 24, 26]) (by kernel_rfl) fun w84 u85 => ?_
   have zu85 := u85.size
   refine go ?_
   refine y_conv underlying89 underlying3 rfl rfl rfl (IntWalk.i64_in _ (by omega)) ?_
   refine go ?_
   refine y_quo rfl rfl rfl rfl (by omega) (by omega) (y_same 119 (v := .int .i64 (v.length : Int)) rfl (congrArg (Value.int .i64) (by omega)) (y_rem rfl rfl rfl rfl (by omega) (by omega) (y_same 120 (v := .int .i64 (t1 : Int)) rfl (congrArg (Value.int .i64) (by rw [ht1]; exact (Int.natCast_emod _ _).symm)) ?_)))
   refine go ?_
   refine y_conv underlying89 underlying3 rfl rfl rfl (IntWalk.i64_in _ (by omega)) (y_rem rfl rfl rfl rfl (by omega) (by omega) (y_same 125 (v := .int .i64 (b1 : Int)) rfl (congrArg (Value.int .i64) (by omega)) ?_))
   refine st1 ?_
   refine y_same 126 (v := .int .i64 ((32 * t1 + b1 : Nat) : Int)) rfl (congrArg (Value.int .i64) (by omega)) ?_
   refine go ?_
   refine x_l fun bk88 w89 ebk88 sbk88 B90 u91 => ?_
   refine go ?_
   have D93 := ((((((D56.keep u62 (fun hb => show ¬ ((gL = bk51 ∧ bk51 ≤ gL)) by first | omega | assumption)).keep u66 (fun _ h => h)).keep u72 (fun hb => show ¬ (gL = gb58) by first | omega | assumption)).keep u79 (fun _ h => h)).keep u85 (fun _ h => h)).keep u91 (fun _ h => h))
   refine t_copy (enc := encY) (z := .int .u8 0) (bytes := 1) (k := 1) (ys := (bytesP v)) underlying25 (by kernel_rfl) rfl (by decide) (fun _ => rfl) (by intro x; simp [encY, Value.oneCell']) rfl rfl rfl rfl B90 (D93.sl (fun _ => rfl)) (by omega) (by decide) (fun ao94 gb95 cp96 w97 A98 u99 gegb95 => ?_)
   have zu99 := u99.size
   have lt_gb95 := A98.lt
   have hcc129 := (A98).cap_le
   refine go ?_
   refine c_drawnM follows (fun i => i = gb95) (OTl [0, 2, 4, 6, 8, 10, 12, 14, 16, 18, 20, 22, 24, 26, 28, 31, 32, 35]) (by kernel_rfl) fun w102 u103 => ?_
   have zu103 := u103.size
   refine go ?_
   have D105 := ((D93.keep u99 (fun hb => show ¬ ((gL = bk88 ∧ bk88 ≤ gL)) by first | omega | assumption)).keep u103 (fun _ h => h))
   refine y_i (32 * t1 + b1 + 1) (D105.sl (fun _ => rfl)) (fun _ => ?_) (hj := (by omega))
   refine go ?_
   refine y_i (32 * t1 + b1) (D105.sl (fun _ => rfl)) (fun _ => ?_) (hj := (by omega))
   refine go ?_
   have D108 := (A98.keep u103 (fun _ h => h))
   refine y_i (32 * t1 + b1) (D108.sl (fun _ => rfl)) (fun _ => ?_) (hj := (by omega))
   refine go ?_
   refine t_storeA (vs := [.int .u8 ((nth (bytesP v) (32 * t1 + b1 + 1)).toNat : Int)]) (j := (32 * t1 + b1)) (o' := 0) (k := 1) (nth (bytesP v) (32 * t1 + b1 + 1)) (fun _ => rfl) sizeOf5 rfl rfl (by omega) rfl D108 (by first | omega | (simp only [List.length_set]; omega)) rfl rfl (by decide) (by simp [Value.oneCell']) rfl (fun w110 R112 u111 => ?_)
   have zu111 := u111.size
   refine go ?_
   have D114 := (A98.keep u103 (fun _ h => h))
   refine y_i (32 * t1 + b1 + 1) (D114.sl (fun _ => rfl)) (fun _ => ?_) (hj := (by omega))
   refine go ?_
   refine t_storeA (vs := [.int .u8 ((nth (bytesP v) (32 * t1 + b1)).toNat : Int)]) (j := (32 * t1 + b1 + 1)) (o' := 0) (k := 1) (nth (bytesP v) (32 * t1 + b1)) (fun _ => rfl) sizeOf5 rfl rfl (by omega) rfl R112 (by first | omega | (simp only [List.length_set]; omega)) rfl rfl (by decide) (by simp [Value.oneCell']) rfl (fun w116 R118 u117 => ?_)
   have zu117 := u117.size
   iterate 7 refine st1 ?_
   refine t_same 147 (v := .slice ao94 (List.length (((bytesP v).set (32 * t1 + b1) (nth (bytesP v) (32 * t1 + b1 + 1))).set (32 * t1 + b1 + 1) (nth (bytesP v) (32 * t1 + b1)))) cp96) rfl (by simp only [List.length_set]) ?_
   refine x_c func34 rfl rfl (ReadLogE_c (((bytesP v).set (32 * t1 + b1) (nth (bytesP v) (32 * t1 + b1 + 1))).set (32 * t1 + b1 + 1) (nth (bytesP v) (32 * t1 + b1))) ao94 gb95 0 cp96 _ (R118.sl (fun _ => rfl)) (by first | omega | (simp only [List.length_set]; omega)) (by first | omega | (simp only [List.length_set]; omega)) (by omega) (readR (((bytesP v).set (32 * t1 + b1) (nth (bytesP v) (32 * t1 + b1 + 1))).set (32 * t1 + b1 + 1) (nth (bytesP v) (32 * t1 + b1)))).1 (readR (((bytesP v).set (32 * t1 + b1) (nth (bytesP v) (32 * t1 + b1 + 1))).set (32 * t1 + b1 + 1) (nth (bytesP v) (32 * t1 + b1)))).2.1 (readR (((bytesP v).set (32 * t1 + b1) (nth (bytesP v) (32 * t1 + b1 + 1))).set (32 * t1 + b1 + 1) (nth (bytesP v) (32 * t1 + b1)))).2.2 rfl) ?_
   rintro _ w123 ⟨⟨aB, gB, cB, rfl, hXB⟩, u124⟩ zu124
   have hx2l : (((bytesP v).set (32 * t1 + b1) (nth (bytesP v) (32 * t1 + b1 + 1))).set (32 * t1 + b1 + 1) (nth (bytesP v) (32 * t1 + b1))).length = 32 * v.length := by simp only [List.length_set]; omega
   have lt_gB := hXB.lt
   iterate 9 refine st1 ?_
   refine x_k1 (fun _ => False) [4, 5, 7] (fun (u7 : Bool) => [(170, .bool false)]) (fun u7 w => (u7 = true)) (fun K131 hK131 => ?_) ?_
   ·
    refine c_drawnM follows (fun _ => False) (OTl [0, 2, 4, 6, 8, 10, 12, 14, 16, 18, 20, 22, 24, 26, 28, 30, 32, 34, 36]) (by kernel_rfl) fun w134 u135 => ?_
    have zu135 := u135.size
    refine go ?_
    have D137 := ((R118.keep u124 (fun _ h => h)).keep u135 (fun _ h => h))
    refine y_i (32 * t1 + b1) (D137.sl (fun _ => rfl)) (fun _ => ?_) (hj := (by omega))
    refine st1 ?_
    refine y_same 155 (v := .int .u8 ((nth (bytesP v) (32 * t1 + b1 + 1)).toNat : Int)) rfl (congrArg (fun b : UInt8 => Value.int .u8 (b.toNat : Int)) (by rw [nth_setN (by omega), nth_setE (by omega)])) ?_
    refine go ?_
    have D139 := ((((D105.keep u111 (fun hb => show ¬ (gL = gb95) by first | omega | assumption)).keep u117 (fun hb => show ¬ (gL = gb95) by first | omega | assumption)).keep u124 (fun _ h => h)).keep u135 (fun _ h => h))
    refine y_i (32 * t1 + b1) (D139.sl (fun _ => rfl)) (fun _ => ?_) (hj := (by omega))
    refine go ?_
    refine y_splitp 161 rfl (fun g161 => ?_) (fun g161 => ?_)
    ·
     iterate 2 refine st1 ?_
     refine y_same 163 (v := .bool false) rfl (congrArg Value.bool (decide_eq_false (by rw [readR_swap hgd hn13 ht1l hb1l (fun e => g161 (by rw [e]))]; exact fun h => h rfl))) ?_
     refine go ?_
     refine y_quo rfl rfl rfl rfl (by omega) (by omega) (y_same 167 (v := .int .i64 (t1 : Int)) rfl (congrArg (Value.int .i64) (by omega)) ?_)
     refine st1 ?_
     refine y_same 168 (v := .bool false) rfl (congrArg Value.bool (decide_eq_false (by rw [readR_swap hgd hn13 ht1l hb1l (fun e => g161 (by rw [e]))]; exact fun h => h rfl))) ?_
     refine go ?_
     exact hK131 true rfl
    refine go ?_
    exact hK131 true rfl
   rintro u7 w132 hu7 u133 zu133
   refine go ?_
   refine c_drawnM follows (fun _ => False) (OTl [0, 2, 4, 6, 8, 10, 12, 14, 16, 18, 20, 22, 24, 26, 28, 30, 32, 34]) (by kernel_rfl) fun w143 u144 => ?_
   have zu144 := u144.size
   refine go ?_
   refine y_indexArr (j := 0) (3) underlying90 sizeOf5 rfl rfl rfl rfl rfl (by decide) rfl ?_
   refine go ?_
   refine y_conv underlying5 underlying3 rfl rfl rfl (IntWalk.i64_in _ (by omega)) ?_
   refine go ?_
   refine y_quo rfl rfl rfl rfl (by omega) (by omega) (y_same 177 (v := .int .i64 (v.length : Int)) rfl (congrArg (Value.int .i64) (by omega)) (y_rem rfl rfl rfl rfl (by omega) (by omega) (y_same 178 (v := .int .i64 (i1 : Int)) rfl (congrArg (Value.int .i64) (by rw [hi1e]; exact (Int.natCast_emod _ _).symm)) ?_)))
   refine go ?_
   refine y_indexArr (j := 1) (4) underlying90 sizeOf5 rfl rfl rfl rfl rfl (by decide) rfl ?_
   refine go ?_
   refine y_conv underlying5 underlying3 rfl rfl rfl (IntWalk.i64_in _ (by omega)) ?_
   refine go ?_
   refine y_quo rfl rfl rfl rfl (by omega) (by omega) (y_same 185 (v := .int .i64 (v.length : Int)) rfl (congrArg (Value.int .i64) (by omega)) (y_rem rfl rfl rfl rfl (by omega) (by omega) (y_same 186 (v := .int .i64 (k2 : Int)) rfl (congrArg (Value.int .i64) (by rw [hk2e]; exact (Int.natCast_emod _ _).symm)) ?_)))
   refine go ?_
   refine x_l fun bk147 w148 ebk147 sbk147 B149 u150 => ?_
   refine go ?_
   have D152 := ((((((D105.keep u111 (fun hb => show ¬ (gL = gb95) by first | omega | assumption)).keep u117 (fun hb => show ¬ (gL = gb95) by first | omega | assumption)).keep u124 (fun _ h => h)).keep u133 (fun _ h => h)).keep u144 (fun _ h => h)).keep u150 (fun _ h => h))
   refine t_copy (enc := encY) (z := .int .u8 0) (bytes := 1) (k := 1) (ys := (bytesP v)) underlying25 (by kernel_rfl) rfl (by decide) (fun _ => rfl) (by intro x; simp [encY, Value.oneCell']) rfl rfl rfl rfl B149 (D152.sl (fun _ => rfl)) (by omega) (by decide) (fun ao153 gb154 cp155 w156 A157 u158 gegb154 => ?_)
   have zu158 := u158.size
   have lt_gb154 := A157.lt
   have hcc189 := (A157).cap_le
   refine go ?_
   refine x_l1 (fun i => (i = gb154 ∧ bk147 ≤ i)) [4, 5, 7, 18, 19] (fun (n : Nat) => [(20, .slice ao153 ((bytesP v).length) cp155), (21, .int .i64 (n : Int))]) (fun n w => (n ≤ 32) ∧ (Acc encY 1 5 bk147 w ao153 gb154 cp155 (bytesP (swV v i1 k2 n)))) (fun n => 32 - n) 0 ⟨(Nat.zero_le _), (by rw [swV_zero hi1 hk2]; exact A157)⟩ ?_
   rintro n w163 ⟨hn, hB⟩ u164 zu164 K162 hK162
   have lt_gb154 := hB.lt
   have hbS := bytesP_len (swV v i1 k2 n)
   rw [swV_len] at hbS
   refine go ?_
   refine q_p (fun g191 => ?_) fun g191 => ?_
   ·
    refine go ?_
    refine c_drawnM follows (fun i => i = gb154) (OTl [0, 2, 4, 6, 8, 10, 12, 14, 16, 18, 20, 22, 24, 26, 28, 30, 32, 34, 36, 38, 40, 42, 44, 46, 48, 51, 52, 55]) (by kernel_rfl) fun w169 u170 => ?_
    have zu170 := u170.size
    refine go ?_
    have D172 := (((D152.keep u158 (fun hb => show ¬ ((gL = bk147 ∧ bk147 ≤ gL)) by first | omega | assumption)).keep u164 (fun hb => show ¬ ((gL = gb154 ∧ bk147 ≤ gL)) by first | omega | assumption)).keep u170 (fun _ h => h))
    refine y_i (32 * k2 + n) (D172.sl (fun _ => rfl)) (fun _ => ?_) (hj := (by omega))
    refine go ?_
    refine y_i (32 * i1 + n) (D172.sl (fun _ => rfl)) (fun _ => ?_) (hj := (by omega))
    refine go ?_
    have D175 := (hB.keep u170 (fun _ h => h))
    refine y_i (32 * i1 + n) (D175.sl (fun _ => rfl)) (fun _ => ?_) (hj := (by omega))
    refine go ?_
    refine t_storeA (vs := [.int .u8 ((nth (bytesP v) (32 * k2 + n)).toNat : Int)]) (j := (32 * i1 + n)) (o' := 0) (k := 1) (nth (bytesP v) (32 * k2 + n)) (fun _ => rfl) sizeOf5 rfl rfl (by omega) rfl D175 (by first | omega | (simp only [List.length_set]; omega)) rfl rfl (by decide) (by simp [Value.oneCell']) rfl (fun w177 R179 u178 => ?_)
    have zu178 := u178.size
    refine go ?_
    have D181 := (hB.keep u170 (fun _ h => h))
    refine y_i (32 * k2 + n) (D181.sl (fun _ => rfl)) (fun _ => ?_) (hj := (by omega))
    refine go ?_
    refine t_storeA (vs := [.int .u8 ((nth (bytesP v) (32 * i1 + n)).toNat : Int)]) (j := (32 * k2 + n)) (o' := 0) (k := 1) (nth (bytesP v) (32 * i1 + n)) (fun _ => rfl) sizeOf5 rfl rfl (by omega) rfl R179 (by first | omega | (simp only [List.length_set]; omega)) rfl rfl (by decide) (by simp [Value.oneCell']) rfl (fun w183 R185 u184 => ?_)
    have zu184 := u184.size
    refine go ?_
    have hst9 : ((bytesP (swV v i1 k2 n)).set (32 * i1 + n) (nth (bytesP v) (32 * k2 + n))).set (32 * k2 + n) (nth (bytesP v) (32 * i1 + n)) = (bytesP (swV v i1 k2 (n + 1))) := by rw [bytesP_nth v k2 n hk2 (by omega), bytesP_nth v i1 n hi1 (by omega)]; exact swV_succ hi1 hk2 (by omega)
    exact hK162 (n + 1) ⟨(by omega), (by rw [← hst9]; exact R185)⟩
   have hn32 : n = 32 := by omega
   subst hn32
   have hbS := bytesP_len (swV v i1 k2 32)
   rw [swV_len] at hbS
   have lt_gb154 := hB.lt
   iterate 9 refine st1 ?_
   refine t_same 221 (v := .slice ao153 (List.length (bytesP (swV v i1 k2 32))) cp155) rfl (by rw [hbS, hbv]) ?_
   refine x_c func34 rfl rfl (ReadLogE_c (bytesP (swV v i1 k2 32)) ao153 gb154 0 cp155 _ (hB.sl (fun _ => rfl)) (by first | omega | (simp only [List.length_set]; omega)) (by first | omega | (simp only [List.length_set]; omega)) (by omega) (readR (bytesP (swV v i1 k2 32))).1 (readR (bytesP (swV v i1 k2 32))).2.1 (readR (bytesP (swV v i1 k2 32))).2.2 rfl) ?_
   rintro _ w189 ⟨⟨aC, gC, cC, rfl, hXC⟩, u190⟩ zu190
   have lt_gC := hXC.lt
   iterate 9 refine st1 ?_
   refine x_k1 (fun _ => False) [4, 5] (fun (u7 : Bool) => [(239, .bool false)]) (fun u7 w => (u7 = true)) (fun K197 hK197 => ?_) ?_
   ·
    refine go ?_
    refine t_splitp 229 rfl (fun g229 => ?_) (fun g229 => ?_)
    ·
     iterate 2 refine st1 ?_
     refine t_same 231 (v := .bool false) rfl (congrArg Value.bool (decide_eq_false (by rw [readR_blocks hgd hn13 hi1 hk2 (fun e => g229 (by rw [e]))]; exact fun h => h rfl))) ?_
     refine go ?_
     refine t_min rfl rfl rfl rfl ?_
     refine st1 ?_
     refine t_same 237 (v := .bool false) rfl (congrArg Value.bool (decide_eq_false (by rw [readR_blocks hgd hn13 hi1 hk2 (fun e => g229 (by rw [e]))]; show ¬ (((min i1 k2 : Nat) : Int) ≠ min (i1 : Int) (k2 : Int)); omega))) ?_
     refine go ?_
     exact hK197 true rfl
    refine go ?_
    exact hK197 true rfl
   rintro u7 w198 hu7 u199 zu199
   refine go ?_
   exact hK31 true rfl
  refine go ?_
  exact hK31 true rfl
 rintro u9 w32 hu9 u33 zu33
 have E201 := Sc.mk (E20.u.next u33 (fun i hi h => by omega))
 refine go ?_
 refine x_c func43 rfl rfl (gcopy_c gs ag bg og cg _ (hgs.keep E201.u (fun _ h => h)) (by omega) (hSG.ext E201.u) (by omega)) ?_
 rintro _ w204 ⟨⟨ys, a1G, g1G, c1G, rfl, hb1G, hA1G, hM1G⟩, u205⟩ zu205
 have E207 := Sc.mk (E201.u.nx u205)
 have lt_g1G := hA1G.lt
 have hs1G := hM1G.slG
 have hl1G := bare_lenG hb1G
 have htlG := textG_len (l := ys) (by omega)
 refine x_c func44 rfl rfl (WriteGauge_c ys a1G g1G 0 c1G _ (hA1G.sl (fun _ => rfl)) (hs1G.ext (Upd.refl (fun _ => False) _)) (by omega) (hT.ext E207.u) (by omega)) ?_
 rintro _ w209 ⟨rfl, u210⟩ zu210
 have E212 := Sc.mk (E207.u.nx u210)
 refine go ?_
 refine x_c func37 rfl rfl (bcopy_c bs ab bb ob cb _ (hbs.keep E212.u (fun _ h => h)) (by omega) (hSB.ext E212.u) (by omega)) ?_
 rintro _ w215 ⟨⟨yb, a1B, g1B, c1B, rfl, hb1B, hA1B, hM1B⟩, u216⟩ zu216
 have E218 := Sc.mk (E212.u.nx u216)
 have lt_g1B := hA1B.lt
 have hs1B := hM1B.slB
 have hl1B := bare_len hb1B
 have htlB := textP_len (l := yb) (by omega)
 refine x_c func38 rfl rfl (WriteBills_c yb a1B g1B 0 c1B _ (hA1B.sl (fun _ => rfl)) (hs1B.ext (Upd.refl (fun _ => False) _)) (by omega) (hT.ext E218.u) (by omega)) ?_
 rintro _ w220 ⟨rfl, u221⟩ zu221
 have E223 := Sc.mk (E218.u.nx u221)
 refine go ?_
 refine c_rounds 3 (WR.weak [(5, .pointer (some ⟨bk7, 0, none⟩)), (25, .string (strB ((textG ys).1))), (26, .int .i64 ((textG ys).2)), (27, .string (strB ((textP yb).1))), (28, .int .i64 ((textP yb).2)), (29, .int .i64 0)] ⟨rfl, rfl, rfl, rfl, rfl, rfl, trivial⟩ (r_round fun K226 hK226 => (q_of ?_)))
 iterate 10 refine st1 ?_
 refine x_k1 (fun i => w220.heap.size ≤ i) [5, 25, 26, 27, 28, 29] (fun (u9 : Bool) => []) (fun u9 w => (u9 = true)) (fun K233 hK233 => ?_) ?_
 ·
  refine go ?_
  refine c_drawnM follows (fun _ => False) (OTl [0, 2, 4, 6, 8, 10, 12, 14, 16, 18, 20, 22, 24, 26]) (by kernel_rfl) fun w237 u238 => ?_
  have zu238 := u238.size
  refine go ?_
  refine y_build (ps := [(0, .string (strB ((textG ys).1))), (1, .string (strB ((textP yb).1)))]) (v := .agg #[.string (strB ((textG ys).1)), .string (strB ((textP yb).1))]) rfl rfl ⟨rfl, rfl⟩ (fun w => by kernel_rfl) ?_
  refine go ?_
  refine y_idxv 0 underlying93 isAgg9 sizeOf9 rfl rfl rfl rfl rfl (by decide) rfl ?_
  refine go ?_
  refine y_build (ps := [(0, .bool (decide ((textG ys).2 = 0))), (1, .bool (decide ((textP yb).2 = 0)))]) (v := .agg #[.bool (decide ((textG ys).2 = 0)), .bool (decide ((textP yb).2 = 0))]) rfl rfl ⟨rfl, rfl⟩ (fun w => by kernel_rfl) ?_
  refine go ?_
  refine y_idxv 0 underlying94 isAgg4 sizeOf4 rfl rfl rfl rfl rfl (by decide) rfl ?_
  iterate 5 refine st1 ?_
  refine x_k1 (fun _ => False) [5, 25, 26, 27, 28, 29, 30] (fun (zt : Bool) => [(275, .bool zt)]) (fun zt w => (zt = decide (¬ ((textG ys).2 = 0 ∧ 0 < (textG ys).1.length)))) (fun K245 hK245 => ?_) ?_
  ·
   refine go ?_
   refine t_splitp 272 rfl (fun g272 => ?_) (fun g272 => ?_)
   ·
    refine go ?_
    exact hK245 true (by first | exact (decide_eq_true (by omega)).symm | exact decide_eq_decide.2 (by rw [← List.length_eq_zero_iff]; omega))
   refine go ?_
   refine t_bo (Bo.eqS ((textG ys).1) ([])) rfl rfl rfl rfl ?_
   refine go ?_
   exact hK245 (decide (((textG ys).1) = ([]))) (by first | exact (decide_eq_true (by omega)).symm | exact decide_eq_decide.2 (by rw [← List.length_eq_zero_iff]; omega))
  rintro zt w246 hzt u247 zu247
  refine q_b (fun g275 => ?_) fun g275 => ?_
  ·
   have hzt : (¬ ((textG ys).2 = 0 ∧ 0 < (textG ys).1.length)) := by rw [hzt] at g275; exact of_decide_eq_true g275
   refine go ?_
   exact hK233 true rfl
  have hzt : ¬ (¬ ((textG ys).2 = 0 ∧ 0 < (textG ys).1.length)) := by rw [hzt] at g275; exact of_decide_eq_false g275
  have hzt := Decidable.not_not.1 hzt
  obtain ⟨hch0, hTp⟩ := hzt
  obtain ⟨q1, hq1⟩ : ∃ q, q = pn % (textG ys).1.length := ⟨_, rfl⟩
  have hql : q1 < (textG ys).1.length := by rw [hq1]; exact Nat.mod_lt _ hTp
  refine go ?_
  refine t_conv underlying89 underlying3 rfl rfl rfl (IntWalk.i64_in _ (by omega)) ?_
  refine go ?_
  refine t_lenS underlying9 rfl rfl rfl rfl (t_rem rfl rfl rfl rfl (by omega) (by omega) (t_same 281 (v := .int .i64 (q1 : Int)) rfl (congrArg (Value.int .i64) (by rw [hq1]; exact (Int.natCast_emod _ _).symm)) ?_))
  refine go ?_
  refine t_idxS q1 underlying9 rfl rfl rfl rfl rfl (by omega) ?_
  refine go ?_
  refine q_p (fun g285 => ?_) fun g285 => ?_
  ·
   refine go ?_
   exact hK233 true rfl
  have hq10 : nth (textG ys).1 q1 ≠ 10 := fun e => g285 (by rw [e]; rfl)
  refine go ?_
  refine t_toB underlying9 underlying25 underlying5 rfl rfl rfl (fun bk253 cp254 w255 ebk253 sbk253 B256 u257 => ?_)
  refine go ?_
  refine c_drawnM follows (fun i => i = bk253) (OTl [0, 2, 4, 8, 10, 7, 12, 14, 17]) (by kernel_rfl) fun w260 u261 => ?_
  have zu261 := u261.size
  refine go ?_
  have D263 := (B256.keep u261 (fun h => h))
  refine y_i q1 (D263.sl) (fun _ => ?_) (hj := (by omega))
  refine go ?_
  refine y_bo (Bo.xor8 (nth ((textG ys).1) q1) z) rfl rfl rfl rfl ?_
  refine y_i q1 (D263.sl) (fun _ => ?_) (hj := (by omega))
  refine go ?_
  refine t_storeBY (v := ((nth ((textG ys).1) q1) ^^^ z)) q1 sizeOf5 rfl rfl rfl D263 (by omega) (fun w266 sw266 B268 u267 => ?_)
  have E269 := Sc.mk (((((E223.u.nx u238).nx u247).nx u257).nx u261).next u267 (fun i hi h => by omega))
  refine go ?_
  refine t_ofB underlying25 underlying5 underlying9 rfl rfl rfl (B268.sl) (by rw [List.length_set]) ?_
  refine x_c func45 rfl rfl (ReadGauge_c ((textG ys).1.set q1 (nth (textG ys).1 q1 ^^^ z)) _ (by rw [List.length_set]; omega) (hE.ext E269.u) (hT.ext E269.u) (by omega)) ?_
  rintro _ w273 ⟨⟨zsG, a2G, g2G, c2G, rfl, hb2G, hA2G, hM2G⟩, u274⟩ zu274
  obtain ⟨hd1, hd2⟩ := readG_dmg (l := ys) (by omega) (by omega) (p := q1) (c := nth (textG ys).1 q1 ^^^ z) hql hq10 (xor_ne hz0)
  have hzl : zsG.length = 0 := by have h9 := congrArg List.length hb2G; rw [List.length_map, show LGa = lineG parGL from rfl, hd2] at h9; exact h9
  iterate 13 refine st1 ?_
  refine t_same 306 (v := .bool false) rfl (congrArg Value.bool (decide_eq_false (by exact hd1))) ?_
  iterate 4 refine st1 ?_
  refine t_same 310 (v := .bool false) rfl (congrArg Value.bool (decide_eq_false (by omega))) ?_
  refine go ?_
  exact hK233 true rfl
 rintro u9 w234 hu9 u235 zu235
 have E278 := Sc.mk (E223.u.next u235 (fun i hi h => by omega))
 refine go ?_
 refine hK226 _ _ (WR.weak [(5, .pointer (some ⟨bk7, 0, none⟩)), (25, .string (strB ((textG ys).1))), (26, .int .i64 ((textG ys).2)), (27, .string (strB ((textP yb).1))), (28, .int .i64 ((textP yb).2)), (29, .int .i64 1)] ⟨rfl, rfl, rfl, rfl, rfl, rfl, trivial⟩ (r_round fun K279 hK279 => (q_of ?_)))
 iterate 10 refine st1 ?_
 refine x_k1 (fun i => w234.heap.size ≤ i) [5, 25, 26, 27, 28, 29] (fun (u9 : Bool) => []) (fun u9 w => (u9 = true)) (fun K286 hK286 => ?_) ?_
 ·
  refine go ?_
  refine c_drawnM follows (fun _ => False) (OTl [0, 2, 4, 6, 8, 10, 12, 14, 16, 18, 20, 22, 24, 26]) (by kernel_rfl) fun w290 u291 => ?_
  have zu291 := u291.size
  refine go ?_
  refine y_build (ps := [(0, .string (strB ((textG ys).1))), (1, .string (strB ((textP yb).1)))]) (v := .agg #[.string (strB ((textG ys).1)), .string (strB ((textP yb).1))]) rfl rfl ⟨rfl, rfl⟩ (fun w => by kernel_rfl) ?_
  refine go ?_
  refine y_idxv 1 underlying93 isAgg9 sizeOf9 rfl rfl rfl rfl rfl (by decide) rfl ?_
  refine go ?_
  refine y_build (ps := [(0, .bool (decide ((textG ys).2 = 0))), (1, .bool (decide ((textP yb).2 = 0)))]) (v := .agg #[.bool (decide ((textG ys).2 = 0)), .bool (decide ((textP yb).2 = 0))]) rfl rfl ⟨rfl, rfl⟩ (fun w => by kernel_rfl) ?_
  refine go ?_
  refine y_idxv 1 underlying94 isAgg4 sizeOf4 rfl rfl rfl rfl rfl (by decide) rfl ?_
  iterate 5 refine st1 ?_
  refine x_k1 (fun _ => False) [5, 25, 26, 27, 28, 29, 30] (fun (zt : Bool) => [(275, .bool zt)]) (fun zt w => (zt = decide (¬ ((textP yb).2 = 0 ∧ 0 < (textP yb).1.length)))) (fun K298 hK298 => ?_) ?_
  ·
   refine go ?_
   refine t_splitp 272 rfl (fun g272 => ?_) (fun g272 => ?_)
   ·
    refine go ?_
    exact hK298 true (by first | exact (decide_eq_true (by omega)).symm | exact decide_eq_decide.2 (by rw [← List.length_eq_zero_iff]; omega))
   refine go ?_
   refine t_bo (Bo.eqS ((textP yb).1) ([])) rfl rfl rfl rfl ?_
   refine go ?_
   exact hK298 (decide (((textP yb).1) = ([]))) (by first | exact (decide_eq_true (by omega)).symm | exact decide_eq_decide.2 (by rw [← List.length_eq_zero_iff]; omega))
  rintro zt w299 hzt u300 zu300
  refine q_b (fun g275 => ?_) fun g275 => ?_
  ·
   have hzt : (¬ ((textP yb).2 = 0 ∧ 0 < (textP yb).1.length)) := by rw [hzt] at g275; exact of_decide_eq_true g275
   refine go ?_
   exact hK286 true rfl
  have hzt : ¬ (¬ ((textP yb).2 = 0 ∧ 0 < (textP yb).1.length)) := by rw [hzt] at g275; exact of_decide_eq_false g275
  have hzt := Decidable.not_not.1 hzt
  obtain ⟨hch0, hTp⟩ := hzt
  obtain ⟨q1, hq1⟩ : ∃ q, q = pn % (textP yb).1.length := ⟨_, rfl⟩
  have hql : q1 < (textP yb).1.length := by rw [hq1]; exact Nat.mod_lt _ hTp
  refine go ?_
  refine t_conv underlying89 underlying3 rfl rfl rfl (IntWalk.i64_in _ (by omega)) ?_
  refine go ?_
  refine t_lenS underlying9 rfl rfl rfl rfl (t_rem rfl rfl rfl rfl (by omega) (by omega) (t_same 281 (v := .int .i64 (q1 : Int)) rfl (congrArg (Value.int .i64) (by rw [hq1]; exact (Int.natCast_emod _ _).symm)) ?_))
  refine go ?_
  refine t_idxS q1 underlying9 rfl rfl rfl rfl rfl (by omega) ?_
  refine go ?_
  refine q_p (fun g285 => ?_) fun g285 => ?_
  ·
   refine go ?_
   exact hK286 true rfl
  have hq10 : nth (textP yb).1 q1 ≠ 10 := fun e => g285 (by rw [e]; rfl)
  refine go ?_
  refine t_toB underlying9 underlying25 underlying5 rfl rfl rfl (fun bk306 cp307 w308 ebk306 sbk306 B309 u310 => ?_)
  refine go ?_
  refine c_drawnM follows (fun i => i = bk306) (OTl [0, 2, 4, 8, 10, 7, 12, 14, 17]) (by kernel_rfl) fun w313 u314 => ?_
  have zu314 := u314.size
  refine go ?_
  have D316 := (B309.keep u314 (fun h => h))
  refine y_i q1 (D316.sl) (fun _ => ?_) (hj := (by omega))
  refine go ?_
  refine y_bo (Bo.xor8 (nth ((textP yb).1) q1) z) rfl rfl rfl rfl ?_
  refine y_i q1 (D316.sl) (fun _ => ?_) (hj := (by omega))
  refine go ?_
  refine t_storeBY (v := ((nth ((textP yb).1) q1) ^^^ z)) q1 sizeOf5 rfl rfl rfl D316 (by omega) (fun w319 sw319 B321 u320 => ?_)
  have E322 := Sc.mk (((((E278.u.nx u291).nx u300).nx u310).nx u314).next u320 (fun i hi h => by omega))
  refine go ?_
  refine t_ofB underlying25 underlying5 underlying9 rfl rfl rfl (B321.sl) (by rw [List.length_set]) ?_
  refine x_c func39 rfl rfl (ReadBills_c ((textP yb).1.set q1 (nth (textP yb).1 q1 ^^^ z)) _ (by rw [List.length_set]; omega) (hE.ext E322.u) (hT.ext E322.u) (by omega)) ?_
  rintro _ w326 ⟨⟨zsB, a2B, g2B, c2B, rfl, hb2B, hA2B, hM2B⟩, u327⟩ zu327
  obtain ⟨hd1, hd2⟩ := readB_dmg (l := yb) (by omega) (by omega) (p := q1) (c := nth (textP yb).1 q1 ^^^ z) hql hq10 (xor_ne hz0)
  have hzl : zsB.length = 0 := by have h9 := congrArg List.length hb2B; rw [List.length_map, show LB = lineB parL from rfl, hd2] at h9; exact h9
  iterate 13 refine st1 ?_
  refine t_same 320 (v := .bool false) rfl (congrArg Value.bool (decide_eq_false (by exact hd1))) ?_
  iterate 4 refine st1 ?_
  refine t_same 324 (v := .bool false) rfl (congrArg Value.bool (decide_eq_false (by omega))) ?_
  refine go ?_
  exact hK286 true rfl
 rintro u9 w287 hu9 u288 zu288
 refine go ?_
 refine hK279 _ _ (WR.weak [(5, .pointer (some ⟨bk7, 0, none⟩)), (25, .string (strB ((textG ys).1))), (26, .int .i64 ((textG ys).2)), (27, .string (strB ((textP yb).1))), (28, .int .i64 ((textP yb).2)), (29, .int .i64 2)] ⟨rfl, rfl, rfl, rfl, rfl, rfl, trivial⟩ (r_round fun K332 hK332 => (q_of ?_)))
 refine go ?_
 refine x_c func13 rfl rfl (known_c _ (hT.ext (E278.u.next u288 (fun i hi h => by omega))) (by omega)) ?_
 rintro _ w337 ⟨rfl, u338⟩ zu338
 refine go ?_
 refine f_1 results11 ?_
 exact ⟨rfl, u_d⟩

end Go.Proofs.YtjdcpnaocjddoaaGreatDoor
namespace Go.Proofs.YtjdcpnaocjddoaaGreatDoor
open Go Go.RowKit Go.Proofs.Tryz
end Go.Proofs.YtjdcpnaocjddoaaGreatDoor
namespace Go.Proofs.YtjdcpnaocjddoaaGreatDoor
open Go Go.RowKit
/-! ### the witness: a world in which the listed variables hold what is told of them -/
def litC : DataW Unit → Value
  | .lit (.int k n) => .int k n
  | _ => .int .i64 0
def aggC : DataW Unit → List Value
  | .agg l => l.map litC
  | _ => []
def aggD : DataW Unit → List Value
  | .agg l => l.flatMap aggC
  | _ => []
def strC : DataW Unit → Value
  | .iface _ (.ptr (.agg [.lit (.string s)])) => .string ⟨s.toArray⟩
  | _ => .int .i64 0
def setC (cs : List Value) : Obj → Obj
  | .cells _ t f => .cells cs.toArray t f
  | o => o
noncomputable def laidWorld (os : Os) : World :=
  { World.holding Tryz.prog os ⟨#[], #[], []⟩ with heap := (((((((((World.holding Tryz.prog os ⟨#[], #[], []⟩).heap.modify 6 (setC (aggC Rows.laid_math_bits_deBruijn32tab))).modify 7 (setC (aggC Rows.laid_math_bits_deBruijn64tab))).modify 5 (setC (aggC Rows.laid_internal_strconv_uint64pow10))).modify 4 (setC (aggD Rows.laid_unicode_utf8_acceptRanges))).modify 3 (setC (aggC Rows.laid_unicode_utf8_first))).modify 2 (setC [.iface 261 (.pointer (some ⟨13, 0, none⟩))])).modify 1 (setC [.iface 261 (.pointer (some ⟨14, 0, none⟩))])).push (.cells #[strC Rows.laid_strconv_ErrRange] 263 (0, 0))).push (.cells #[strC Rows.laid_strconv_ErrSyntax] 263 (0, 0)) }
theorem laid_met (os : Os) (args : Array Value) : laidMet Tryz.prog Rows.logsCodesRow.laid ((laidWorld os).forCall (fun _ _ => 0) ⟨#[], args, []⟩).memory :=
  laidMet_of_run' 8 (by kernel_rfl) (by kernel_rfl)
theorem glob5 : Tryz.prog.globalNamed "internal/strconv.uint64pow10" = some 5 := by kernel_rfl
theorem glob5t : (Tryz.prog.globals[5]?).map (·.type) = some 266 := by kernel_rfl
theorem tab_of_laid {W : World} (h : laidMet Tryz.prog Rows.logsCodesRow.laid W) : Tab10 W := by
  have e : (Rows.laid_internal_strconv_uint64pow10 : DataW Unit) = Lib.tabData .u64 Lib.pow10Tab := by kernel_rfl
  obtain ⟨ps, ⟨_, _, _, _, _, _, _, _, _, _, ⟨_, _, _, _, _, _, _, _, _, _, ⟨g', t', cs, fuel, p, q, hg', ht', hvar, hd, _, _⟩, _⟩, _⟩, _⟩ := h
  obtain rfl := Option.some.inj (glob5.symm.trans hg')
  obtain rfl := Option.some.inj (glob5t.symm.trans ht')
  unfold Tab10 Lib.TabIs
  rw [hvar, ← Lib.cells_of_tab (t := 266) (e := 214) (n := 20) (k := .u64) (zs := Lib.pow10Tab) Tryz.underlying266 Tryz.underlying214 (by kernel_rfl) (by kernel_rfl) (by rw [← e]; exact hd)]
theorem tab_pos {w : World} (h : Tab10 w) : 0 < w.heap.size := by
  unfold Tab10 Lib.TabIs World.var? at h
  rw [glob5] at h
  simp only [Option.bind_some] at h
  rcases Nat.lt_or_ge 5 w.heap.size with q | q
  · omega
  · rw [Array.getElem?_eq_none q] at h; cases h

end Go.Proofs.YtjdcpnaocjddoaaGreatDoor
namespace Go.Proofs.YtjdcpnaocjddoaaGreatDoor
open Go Go.RowKit
theorem iface_of {W : World} {t : TypeId} {ms : Array (String × TypeId)} (ht : Tryz.prog.underlying t = some (.interface ms)) {sp : Nat → Bool} {n : Nat} {cs : List Value} {d : DataW Unit} {p : List MemPlace} (h : DataW.trod (fun _ => ()) Tryz.prog W 0 sp false n t cs = some (d, p)) : ∃ E, cs = [E] ∧ (E = .nilIface ∨ ∃ te pe, E = .iface te pe) := by
  cases n with
  | zero => simp [DataW.trod] at h
  | succ n =>
    cases cs with
    | nil => simp [DataW.trod, ht] at h
    | cons E r =>
      cases r with
      | nil =>
        refine ⟨E, rfl, ?_⟩
        cases E with
        | nilIface => exact .inl rfl
        | iface u v => exact .inr ⟨u, v, rfl⟩
        | _ => simp [DataW.trod, ht] at h
      | cons E2 r => simp [DataW.trod, ht] at h
theorem var_cell {W : World} {n : String} {g : Nat} {cs : Array Value} {E : Value} (hg : Tryz.prog.globalNamed n = some g) (hv : W.var? Tryz.prog n = some cs) (he : cs.toList = [E]) : W.cell? ⟨g, 0, none⟩ = some E := by
  unfold World.var? at hv
  rw [hg] at hv
  have hv : (match W.heap[g]? with | some (.cells cs _ _) => some cs | _ => none) = some cs := hv
  cases hh : W.heap[g]? with
  | none => rw [hh] at hv; cases hv
  | some o =>
    rw [hh] at hv
    cases o with
    | cells c t f =>
      injection hv with hv
      subst hv
      have h0 : c[0]? = some E := by rw [← Array.getElem?_toList, he]; rfl
      simp [World.cell?, hh, h0]
    | _ => cases hv
theorem globS : Tryz.prog.globalNamed "strconv.ErrSyntax" = some (layAtoi_ren.g 15) := by kernel_rfl
theorem globR : Tryz.prog.globalNamed "strconv.ErrRange" = some (layAtoi_ren.g 16) := by kernel_rfl
theorem globSt : (Tryz.prog.globals[layAtoi_ren.g 15]?).map (·.type) = some 192 := by kernel_rfl
theorem globRt : (Tryz.prog.globals[layAtoi_ren.g 16]?).map (·.type) = some 192 := by kernel_rfl
theorem err_of_laid {W : World} (h : laidMet Tryz.prog Rows.logsCodesRow.laid W) : ErrV W := by
  obtain ⟨ps, ⟨_, _, _, _, _, _, _, _, _, _, ⟨_, _, _, _, _, _, _, _, _, _, ⟨_, _, _, _, _, _, _, _, _, _, ⟨_, _, _, _, _, _, _, _, _, _, ⟨g', t', cs, fuel, p, q, hg', ht', hvar, hd, ⟨g2, t2, cs2, fuel2, p2, q2, hg2, ht2, hvar2, hd2, _, _⟩, _⟩, _⟩, _⟩, _⟩, _⟩, _⟩ := h
  obtain rfl := Option.some.inj (globR.symm.trans hg')
  obtain rfl := Option.some.inj (globRt.symm.trans ht')
  obtain rfl := Option.some.inj (globS.symm.trans hg2)
  obtain rfl := Option.some.inj (globSt.symm.trans ht2)
  obtain ⟨E1, e1, f1⟩ := iface_of Tryz.underlying192 hd
  obtain ⟨E2, e2, f2⟩ := iface_of Tryz.underlying192 hd2
  exact ⟨E2, E1, var_cell globS hvar2 e2, f2, var_cell globR hvar e1, f1⟩

end Go.Proofs.YtjdcpnaocjddoaaGreatDoor
namespace Go.Proofs.YtjdcpnaocjddoaaGreatDoor
open Go Go.RowKit Go.ChangeShapes Go.WideShapes Go.ChangeAt
/-! ### what came in, with its sizes -/
section
variable {H : Type} {enc : TypeId × Value → H} {P : Program} {w : World} {t e : TypeId} {cs : List Value}
def Rs (enc : TypeId × Value → H) (P : Program) (w : World) (t : TypeId) (cs : List Value) : Prop := ∃ fuel d p, DataW.trod enc P w 0 (fun _ => true) true fuel t cs = some (d, p) ∧ ∀ n ∈ d.weights P t, n ≤ reachBytes
theorem Rs.rd (h : Rs enc P w t cs) : Rd enc P w t cs := by
  obtain ⟨f, d, p, h, _⟩ := h
  exact ⟨f, _, h⟩
theorem Rs.of {v : Value} {d : DataW H} {p : List MemPlace} (h : DataW.Trod enc P w 0 (fun _ => true) true t v d p) (hs : ∀ n ∈ d.weights P t, n ≤ reachBytes) : Rs enc P w t v.cells.toList := by
  obtain ⟨fuel, hf⟩ := h
  exact ⟨fuel, d, p, hf, hs⟩
theorem Rs.int (ht : P.underlying t = some (.int .i64)) (h : Rs enc P w t cs) : ∃ n : Int, cs = [.int .i64 n] ∧ (-9223372036854775808 ≤ n ∧ n ≤ 9223372036854775807) := h.rd.int ht
theorem Rs.intu8 (ht : P.underlying t = some (.int .u8)) (h : Rs enc P w t cs) : ∃ n : Int, cs = [.int .u8 n] ∧ (0 ≤ n ∧ n ≤ 255) := h.rd.intu8 ht
theorem Rs.struct {fs : Array Field} (ht : P.underlying t = some (.struct fs)) (h : Rs enc P w t cs) : cs.length = P.cellsOf t ∧ ∀ (i : Nat) (f : Field), fs[i]? = some f → Rs enc P w f.type ((cs.drop f.offset).take (P.cellsOf f.type)) := by
  obtain ⟨fuel, d, p, hf, hs⟩ := h
  obtain ⟨xs, n, _, hx, h1, h2, h3⟩ := DataW.trod_struct ht hf
  injection hx with hd _
  subst hd
  refine ⟨h1, fun i f hi => ?_⟩
  have h4 := h3 i f hi
  have hlt : i < xs.length := by rw [h2]; exact (Array.getElem?_eq_some_iff.1 hi).1
  refine ⟨n, xs[i].1, xs[i].2, by rw [h4, List.getElem?_eq_getElem hlt], fun m hm => hs m ?_⟩
  have hw : DataW.weights P t (.agg (xs.map (·.1))) = DataW.weightsEach P (fs.toList.map (·.type)) (xs.map (·.1)) := by simp only [DataW.weights, ht]
  rw [hw]
  exact DataW.weights_mem_each (j := i) (t := f.type) (d := xs[i].1) (by rw [List.getElem?_map, Array.getElem?_toList, hi]; rfl) (by rw [List.getElem?_map, List.getElem?_eq_getElem hlt]; rfl) m hm
theorem Rs.fld {fs : Array Field} {f : Field} {u : TypeId} {o n : Nat} (ht : P.underlying t = some (.struct fs)) (h : Rs enc P w t cs) (i : Nat) (hi : fs[i]? = some f) (hu : f.type = u) (ho : f.offset = o) (hn : P.cellsOf u = n) : Rs enc P w u ((cs.drop o).take n) := by
  subst hu ho hn; exact (h.struct ht).2 i f hi
theorem weightsAll_mem' : ∀ {l : List (DataW H)} {d : DataW H}, d ∈ l → ∀ n ∈ d.weights P e, n ∈ DataW.weightsAll P e l
  | [], _, h, _, _ => by cases h
  | x :: l, d, h, n, hn => by
    simp only [DataW.weightsAll, List.mem_append]
    rcases List.mem_cons.1 h with rfl | h
    · exact .inl hn
    · exact .inr (weightsAll_mem' h n hn)
theorem Rs.slice (ht : P.underlying t = some (.slice e)) (hk : 0 < P.cellsOf e) (h : Rs enc P w t cs) : ∃ ao len cap, cs = [.slice ao len cap] ∧ len ≤ cap ∧ (cap ≤ maxLen ∧ cap * P.bytesOf e ≤ reachBytes) ∧
    (0 < len → ∃ b o, ao = some ⟨b, o, none⟩ ∧ b < w.heap.size ∧ ∀ i, i < len → ∃ cs', cs'.length = P.cellsOf e ∧ At w b (o + i * P.cellsOf e) cs' ∧ Rs enc P w e cs') := by
  obtain ⟨fuel, d, p, hf, hs⟩ := h
  rcases Go.Deep.open_slice ht hf with ⟨h1, _⟩ | ⟨a, len, cap, m, n, D, Pl, h1, _, h2, h3, hm, hx, h4⟩
  · exact ⟨none, 0, 0, h1, Nat.le_refl _, ⟨by decide, by rw [Nat.zero_mul]; exact Nat.zero_le _⟩, fun h => absurd h (Nat.lt_irrefl _)⟩
  · have hmc : m = cap := by rw [hm]; simp
    injection hx with hd _
    have hw : DataW.weights P t d = (((List.range len).map D).length + ((List.range (m - len)).map fun j => D (len + j)).length) * P.bytesOf e :: (DataW.weightsAll P e ((List.range len).map D) ++ DataW.weightsAll P e ((List.range (m - len)).map fun j => D (len + j))) := by rw [hd]; simp only [DataW.weights, ht]
    have hc := hs _ (by rw [hw]; exact List.mem_cons_self ..)
    rw [List.length_map, List.length_map, List.length_range, List.length_range, show len + (m - len) = cap by omega] at hc
    refine ⟨some a, len, cap, h1, h2, ⟨h3, hc⟩, fun hp => ?_⟩
    have cell : ∀ i, i < len → ∃ cs', w.cells? 0 (a.add (i * P.cellsOf e)) (P.cellsOf e) = some cs' ∧ Rs enc P w e cs' := fun i hi => by
      obtain ⟨cs', q1, q2⟩ := h4 i (by omega)
      refine ⟨cs', q1, n, _, _, q2, fun k hk => hs k ?_⟩
      rw [hw]
      exact List.mem_cons_of_mem _ (List.mem_append_left _ (weightsAll_mem' (List.mem_map.2 ⟨i, List.mem_range.2 hi, rfl⟩) k hk))
    obtain ⟨c0, q1, _⟩ := cell 0 hp
    obtain ⟨_, hl0, hc0⟩ := World.cells?_some q1
    have hfirst : w.cell? a = c0[0]? := by
      have := hc0 0 hk
      simpa [Addr.add] using this
    have hsp : a.spot = none := World.cell?_spot (by rw [hfirst]; exact List.getElem?_eq_getElem (by omega))
    obtain ⟨b, o, sp⟩ := a
    obtain rfl : sp = none := hsp
    refine ⟨b, o, rfl, World.cells?_block (by simpa [addr_add] using q1) hk, fun i hi => ?_⟩
    obtain ⟨cs', r1, r2⟩ := cell i hi
    obtain ⟨_, hl1, hc1⟩ := World.cells?_some r1
    refine ⟨cs', hl1, fun j v hj => ?_, r2⟩
    have hjl : j < P.cellsOf e := by rw [← hl1]; exact (List.getElem?_eq_some_iff.1 hj).1
    have := hc1 j hjl
    rw [addr_add, addr_add] at this
    rw [this, hj]
theorem Rs.sl {α : Type} [Inhabited α] {enc' : α → List Value} {k : Nat} {R : α → Prop} (hk : P.cellsOf e = k) (hk0 : 0 < k) (ht : P.underlying t = some (.slice e)) (he : ∀ cs, Rs enc P w e cs → ∃ x, cs = enc' x ∧ R x) (h : Rs enc P w t cs) :
    ∃ (ao : Option Addr) (b o cap : Nat) (xs : List α), cs = [.slice ao xs.length cap] ∧ xs.length ≤ cap ∧ (cap ≤ maxLen ∧ cap * P.bytesOf e ≤ reachBytes) ∧ Sl enc' k w ao b o xs ∧ ∀ x ∈ xs, R x := by
  subst hk
  obtain ⟨ao, len, cap, h1, h2, h3, h4⟩ := h.slice ht hk0
  rcases Nat.eq_zero_or_pos len with h0 | h0
  · subst h0
    exact ⟨ao, 0, 0, cap, [], h1, h2, h3, Sl.nil _ _ _ _ _ _, fun x hx => by cases hx⟩
  · obtain ⟨b, o, hao, hb, hel⟩ := h4 h0
    have key : ∀ n, n ≤ len → ∃ xs : List α, xs.length = n ∧ (∀ i, i < n → At w b (o + i * P.cellsOf e) (enc' (nth xs i))) ∧ ∀ x ∈ xs, R x := by
      intro n
      induction n with
      | zero => exact fun _ => ⟨[], rfl, fun i hi => by omega, fun x hx => by cases hx⟩
      | succ n ih =>
        intro hn
        obtain ⟨xs, q1, q2, q3⟩ := ih (by omega)
        obtain ⟨cs', r1, r2, r3⟩ := hel n (by omega)
        obtain ⟨x, rfl, hx⟩ := he _ r3
        refine ⟨xs ++ [x], by simp [q1], fun i hi => ?_, fun y hy => ?_⟩
        · by_cases e : i = n
          · subst e
            have : nth (xs ++ [x]) i = x := by simp [nth, List.getD_eq_getElem?_getD, q1]
            rw [this]; exact r2
          · have : nth (xs ++ [x]) i = nth xs i := by simp [nth, List.getD_eq_getElem?_getD, List.getElem?_append_left (show i < xs.length by omega)]
            rw [this]; exact q2 i (by omega)
        · rcases List.mem_append.1 hy with hy | hy
          · exact q3 y hy
          · have : y = x := by simpa using hy
            subst this; exact hx
    obtain ⟨xs, q1, q2, q3⟩ := key len (Nat.le_refl _)
    subst q1
    exact ⟨ao, b, o, cap, xs, h1, h2, h3, ⟨fun _ => hao, fun _ => hb, q2⟩, q3⟩
theorem cap_of_bytes {cap : Nat} (h : cap * 8 ≤ reachBytes) : cap ≤ 17592186044416 := by
  have e : reachBytes = 140737488351232 := rfl
  omega
end

end Go.Proofs.YtjdcpnaocjddoaaGreatDoor
namespace Go.Proofs.YtjdcpnaocjddoaaGreatDoor
open Go Go.RowKit Go.ChangeShapes Go.WideShapes Go.ChangeAt
section
variable {H : Type} {enc : TypeId × Value → H} {P : Program} {w : World} {t e : TypeId} {cs : List Value}
theorem Rs.intu16 (ht : P.underlying t = some (.int .u16)) (h : Rs enc P w t cs) : ∃ n : Int, cs = [.int .u16 n] ∧ (0 ≤ n ∧ n ≤ 65535) := h.rd.intu16 ht
theorem Rs.array {n : Nat} (ht : P.underlying t = some (.array n e)) (h : Rs enc P w t cs) : cs.length = P.cellsOf t ∧ ∀ i, i < n → Rs enc P w e ((cs.drop (i * P.cellsOf e)).take (P.cellsOf e)) := by
  obtain ⟨fuel, d, p, hf, hs⟩ := h
  obtain ⟨xs, m, _, hx, h1, h2, h3⟩ := DataW.trod_array ht hf
  injection hx with hd _
  subst hd
  refine ⟨h1, fun i hi => ?_⟩
  have hlt : i < xs.length := by omega
  refine ⟨m, xs[i].1, xs[i].2, by rw [h3 i hi, List.getElem?_eq_getElem hlt], fun k hk => hs k ?_⟩
  have hw : DataW.weights P t (.agg (xs.map (·.1))) = DataW.weightsAll P e (xs.map (·.1)) := by simp only [DataW.weights, ht]
  rw [hw]
  exact weightsAll_mem' (List.mem_map.2 ⟨xs[i], List.getElem_mem hlt, rfl⟩) k hk
theorem Rs.elt {n k : Nat} (ht : P.underlying t = some (.array n e)) (h : Rs enc P w t cs) (i : Nat) (hi : i < n) (hk : P.cellsOf e = k) : Rs enc P w e ((cs.drop (i * k)).take k) := by
  subst hk; exact (h.array ht).2 i hi
end

end Go.Proofs.YtjdcpnaocjddoaaGreatDoor
