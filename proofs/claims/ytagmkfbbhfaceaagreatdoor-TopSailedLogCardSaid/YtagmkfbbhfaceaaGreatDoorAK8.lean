/-
  Part 8 of the proof: contracts and plain laws. Conditions: none.
-/
import Derived.Test.YtagmkfbbhfaceaaGreatDoorAK7
namespace Go.Proofs.YtagmkfbbhfaceaaGreatDoor
open Go Go.RowKit Go.Proofs.Tryz
set_option maxRecDepth 10000
set_option maxHeartbeats 4000000 in
theorem insertC_c (l : List Crg) (ao : Option Addr) (gb cp base k bv : Nat) (s : Crg) (w0 : World) (ha : Acc encCrg 2 72 base w0 ao gb cp l) (hk : k ≤ l.length) (hll : l.length ≤ 100000) (hbs : base ≤ w0.heap.size) (hb : Blk w0 bv 72 (encCrg s)) (hvg0 : base ≤ gb → bv ≠ gb) :
    CallsV Tryz.prog 181 [.slice ao l.length cp, .int .i64 (k : Int), .slice (some ⟨bv, 0, none⟩) 1 1] w0 (fun v w' => (∃ ao' g' cp', v = .slice ao' (List.length (l.take k ++ s :: l.drop k)) cp' ∧ Acc encCrg 2 72 base w' ao' g' cp' (l.take k ++ s :: l.drop k) ∧ (g' = gb ∨ w0.heap.size ≤ g')) ∧ Upd (fun i => i = gb ∧ base ≤ i) w0 w') := by
 have hcl := ha.cap_le
 have hgl := ha.lt
 have hbl := hb.lt
 refine f_n func181 ?_
 refine go ?_
 refine t_sliceFrom (k) underlying64 sizeOf72 rfl rfl rfl rfl rfl hk hcl ?_
 refine go ?_
 refine q_p (fun g22 => ?_) fun g22 => ?_
 ·
  refine go ?_
  refine t_append2 (z := .agg #[.int .i64 0, .int .i64 0]) (bytes := 16) (k := 2) (base := base) s underlying64 underlying64 (by kernel_rfl) rfl (by decide) (fun _ => rfl) (by intro x; simp [encCrg, Value.oneCell']) rfl rfl rfl rfl ha hb (by omega) (by omega) (by decide) (fun ao10 gb11 cp12 w13 A14 u15 gegb11 lngb11 => ?_)
  have zu15 := u15.size
  have lt_gb11 := A14.lt
  refine go ?_
  refine f_1 results181 ?_
  have hxe : (l.take k ++ s :: l.drop k) = l ++ [s] := by rw [show k = l.length by omega, List.take_length, List.drop_length]
  exact ⟨⟨ao10, gb11, cp12, by rw [hxe], by rw [hxe]; exact A14, (by omega)⟩, u_d⟩
 have hkl : k < l.length := by omega
 obtain ⟨hao, hbg, hlc, hcM0, cs0, hB0, hB0l, hB0t⟩ := Acc.raw ha (.inr (by omega))
 subst hao
 have hvg : bv ≠ gb := hvg0 hbg
 have hAtk : At w0 gb 0 ((l.take k).flatMap encCrg) := by
   have h9 := (ha.sl (fun _ => rfl)).cellsFrom (k := 2) (by decide) (fun _ => rfl) 0 k
   rw [List.drop_zero, Nat.zero_add, Nat.zero_mul] at h9
   exact h9
 have hgl0 := hB0.lt
 refine go ?_
 refine t_cap underlying64 rfl rfl rfl rfl ?_
 refine go ?_
 refine q_p (fun g31 => ?_) fun g31 => ?_
 ·
  refine go ?_
  refine t_sliceTo (k) underlying64 sizeOf72 rfl rfl rfl rfl rfl (by omega) (t_same 34 (v := .slice (some ⟨gb, 0, none⟩) k cp) rfl (by rw [subAddr_some (by omega)]) ?_)
  refine go ?_
  refine t_appZ (cs := (l.take k).flatMap encCrg) (m := l.length + 1 - k) (n := l.length + 1) (off := 0) (z := .agg #[.int .i64 0, .int .i64 0]) (bytes := 16) (k := 2) underlying64 underlying3 (by kernel_rfl) rfl (by decide) rfl rfl rfl rfl (by omega) (by omega) (by omega) (by omega) (by rw [flatMap_len (k := 2) (fun _ => rfl), List.length_take]; omega) hAtk (by omega) (by decide) (fun cN w20 zs hcN hcM hzl B22 u21 => ?_)
  have zu21 := u21.size
  obtain ⟨C0, hC0⟩ : ∃ C, (l.take k).flatMap encCrg ++ zs = C := ⟨_, rfl⟩
  rw [hC0] at B22
  have hlN := B22.lt
  have hCl : C0.length = cN * 2 := by rw [← hC0, List.length_append, hzl, flatMap_len (k := 2) (fun _ => rfl), List.length_take]; omega
  have hCt : C0.take (k * 2) = (l.take k).flatMap encCrg := by rw [← hC0, List.take_left' (by rw [flatMap_len (k := 2) (fun _ => rfl), List.length_take]; omega)]
  refine go ?_
  refine t_sliceFrom (k) underlying64 sizeOf72 rfl rfl rfl rfl (by omega) (by omega) (by omega) (t_same 43 (v := .slice (some ⟨w0.heap.size, 0 + k * 2, none⟩) ((l.length + 1) - k) (cN - k)) rfl (by rw [subAddr_some (by omega)]) ?_)
  refine go ?_
  have B28 := (hb.kx u21)
  refine t_copyB (k := 2) (cs := C0) (vs := (encCrg s)) underlying64 sizeOf72 rfl rfl rfl rfl B22 (B28.at) (by show 2 = min _ _ * 2; omega) (by show 0 + k * 2 + 2 ≤ _; rw [hCl]; omega) (by exact encCrg_one s) (fun w25 sw25 B27 u26 => ?_)
  have zu26 := u26.size
  obtain ⟨C1, hC1⟩ : ∃ C, lay C0 (0 + k * 2) (encCrg s) = C := ⟨_, rfl⟩
  rw [hC1] at B27
  have lC1 : C1.length = C0.length := by rw [← hC1, lay_length]
  refine go ?_
  refine c_drawnM follows (fun i => i = w0.heap.size) (OTl [0, 2, 4, 6, 8, 10, 12, 14, 17]) (by kernel_rfl) fun w31 u32 => ?_
  have zu32 := u32.size
  refine go ?_
  refine y_sliceFrom ((k + 1)) underlying64 sizeOf72 rfl rfl rfl rfl (by omega) (by omega) (by omega) (y_same 50 (v := .slice (some ⟨w0.heap.size, 0 + (k + 1) * 2, none⟩) ((l.length + 1) - (k + 1)) (cN - (k + 1))) rfl (by rw [subAddr_some (by omega)]) ?_)
  refine go ?_
  refine y_sliceFrom (k) underlying64 sizeOf72 rfl rfl rfl rfl (by omega) (by omega) (by omega) (y_same 53 (v := .slice (some ⟨gb, 0 + k * 2, none⟩) (l.length - k) (cp - k)) rfl (by rw [subAddr_some (by omega)]) ?_)
  refine go ?_
  have D37 := (((ha.keep u21 (fun _ h => h)).keep u26 (fun hb => show ¬ (gb = w0.heap.size) by first | omega | assumption)).keep u32 (fun _ h => h))
  refine t_copyB (k := 2) (cs := C1) (vs := ((l.drop k).flatMap encCrg)) underlying64 sizeOf72 rfl rfl rfl rfl (B27.kx u32) (by have h9 := (D37.sl (fun _ => rfl)).cellsFrom (k := 2) (by decide) (fun _ => rfl) k (l.length - k); rwa [List.take_of_length_le (by rw [List.length_drop]; omega)] at h9) (by rw [flatMap_len (k := 2) (fun _ => rfl), List.length_drop]; omega) (by rw [flatMap_len (k := 2) (fun _ => rfl), List.length_drop]; rw [lC1, hCl]; omega) (by intro v hv; obtain ⟨x, _, hv⟩ := List.mem_flatMap.1 hv; exact encCrg_one x v hv) (fun w34 sw34 B36 u35 => ?_)
  have zu35 := u35.size
  obtain ⟨C2, hC2⟩ : ∃ C, lay C1 (0 + (k + 1) * 2) ((l.drop k).flatMap encCrg) = C := ⟨_, rfl⟩
  rw [hC2] at B36
  have lC2 : C2.length = C1.length := by rw [← hC2, lay_length]
  refine go ?_
  refine f_1 results181 ?_
  have hln : (l.take k ++ s :: l.drop k).length = l.length + 1 := by rw [List.length_append, List.length_cons, List.length_take, List.length_drop]; omega
  refine ⟨⟨some ⟨w0.heap.size, 0, none⟩, w0.heap.size, cN, by rw [hln], Acc.ofRaw (cs := C2) B36 (Nat.le_trans hbs (by omega)) (by rw [hln]; omega) hcM (by rw [lC2, lC1]; exact hCl) ?_, (by first | exact .inl rfl | exact .inr (by omega))⟩, u_d⟩
  rw [hln]
  have h9 := ins_rawA (k := 2) (s := s) (fun _ => rfl) rfl hkl (by rw [hCl]; omega) hCt
  rw [← hC2, ← hC1, Nat.zero_add, Nat.zero_add]
  exact h9
 refine go ?_
 refine t_sliceTo (l.length + 1) underlying64 sizeOf72 rfl rfl rfl rfl (by omega) (by omega) (t_same 60 (v := .slice (some ⟨gb, 0, none⟩) (l.length + 1) cp) rfl (by rw [subAddr_some (by omega)]) ?_)
 refine go ?_
 refine t_sliceFrom ((k + 1)) underlying64 sizeOf72 rfl rfl rfl rfl (by omega) (by omega) (by omega) (t_same 66 (v := .slice (some ⟨gb, 0 + (k + 1) * 2, none⟩) ((l.length + 1) - (k + 1)) (cp - (k + 1))) rfl (by rw [subAddr_some (by omega)]) (t_apart (tS := 64) (tR := 4) (e := 72) func213 (by kernel_rfl) (by kernel_rfl) (by kernel_rfl) (by kernel_rfl) underlying64 sizeOf72 rfl rfl rfl rfl rfl hb hB0 hvg (by rw [hB0l]; omega) ?_))
 refine go ?_
 refine c_drawnM follows (fun i => i = gb) (OTl [0, 2, 4, 6, 8, 10, 12, 14, 17]) (by kernel_rfl) fun w44 u45 => ?_
 have zu45 := u45.size
 refine go ?_
 refine y_sliceFrom ((k + 1)) underlying64 sizeOf72 rfl rfl rfl rfl (by omega) (by omega) (by omega) (y_same 73 (v := .slice (some ⟨gb, 0 + (k + 1) * 2, none⟩) ((l.length + 1) - (k + 1)) (cp - (k + 1))) rfl (by rw [subAddr_some (by omega)]) ?_)
 refine go ?_
 refine y_sliceFrom (k) underlying64 sizeOf72 rfl rfl rfl rfl (by omega) (by omega) (by omega) (y_same 76 (v := .slice (some ⟨gb, 0 + k * 2, none⟩) ((l.length + 1) - k) (cp - k)) rfl (by rw [subAddr_some (by omega)]) ?_)
 refine go ?_
 have D50 := (ha.keep u45 (fun _ h => h))
 refine t_copyB (k := 2) (cs := cs0) (vs := ((l.drop k).flatMap encCrg)) underlying64 sizeOf72 rfl rfl rfl rfl (hB0.kx u45) (by have h9 := (D50.sl (fun _ => rfl)).cellsFrom (k := 2) (by decide) (fun _ => rfl) k (l.length - k); rwa [List.take_of_length_le (by rw [List.length_drop]; omega)] at h9) (by rw [flatMap_len (k := 2) (fun _ => rfl), List.length_drop]; omega) (by rw [flatMap_len (k := 2) (fun _ => rfl), List.length_drop]; rw [hB0l]; omega) (by intro v hv; obtain ⟨x, _, hv⟩ := List.mem_flatMap.1 hv; exact encCrg_one x v hv) (fun w47 sw47 B49 u48 => ?_)
 have zu48 := u48.size
 obtain ⟨C1, hC1⟩ : ∃ C, lay cs0 (0 + (k + 1) * 2) ((l.drop k).flatMap encCrg) = C := ⟨_, rfl⟩
 rw [hC1] at B49
 have lC1 : C1.length = cs0.length := by rw [← hC1, lay_length]
 refine go ?_
 refine t_sliceFrom (k) underlying64 sizeOf72 rfl rfl rfl rfl (by omega) (by omega) (by omega) (t_same 80 (v := .slice (some ⟨gb, 0 + k * 2, none⟩) ((l.length + 1) - k) (cp - k)) rfl (by rw [subAddr_some (by omega)]) ?_)
 refine go ?_
 have B56 := ((hb.kx u45).keep u48 (by omega))
 refine t_copyB (k := 2) (cs := C1) (vs := (encCrg s)) underlying64 sizeOf72 rfl rfl rfl rfl B49 (B56.at) (by show 2 = min _ _ * 2; omega) (by show 0 + k * 2 + 2 ≤ _; rw [lC1, hB0l]; omega) (by exact encCrg_one s) (fun w53 sw53 B55 u54 => ?_)
 have zu54 := u54.size
 obtain ⟨C2, hC2⟩ : ∃ C, lay C1 (0 + k * 2) (encCrg s) = C := ⟨_, rfl⟩
 rw [hC2] at B55
 have lC2 : C2.length = C1.length := by rw [← hC2, lay_length]
 refine go ?_
 refine f_1 results181 ?_
 have hln : (l.take k ++ s :: l.drop k).length = l.length + 1 := by rw [List.length_append, List.length_cons, List.length_take, List.length_drop]; omega
 refine ⟨⟨some ⟨gb, 0, none⟩, gb, cp, by rw [hln], Acc.ofRaw (cs := C2) B55 (hbg) (by rw [hln]; omega) hcM0 (by rw [lC2, lC1]; exact hB0l) ?_, (by first | exact .inl rfl | exact .inr (by omega))⟩, u_d⟩
 rw [hln]
 have h9 := ins_rawB (k := 2) (s := s) (fun _ => rfl) rfl hkl (by rw [hB0l]; omega) (raw_take (k := 2) (fun _ => rfl) hB0t (by omega))
 rw [← hC2, ← hC1, Nat.zero_add, Nat.zero_add]
 exact h9

set_option maxHeartbeats 4000000 in
theorem insertH_c (l : List HR) (ao : Option Addr) (gb cp base k bv : Nat) (s : HR) (w0 : World) (ha : Acc encHR 3 70 base w0 ao gb cp l) (hk : k ≤ l.length) (hll : l.length ≤ 100000) (hbs : base ≤ w0.heap.size) (hb : Blk w0 bv 70 (encHR s)) (hvg0 : base ≤ gb → bv ≠ gb) :
    CallsV Tryz.prog 140 [.slice ao l.length cp, .int .i64 (k : Int), .slice (some ⟨bv, 0, none⟩) 1 1] w0 (fun v w' => (∃ ao' g' cp', v = .slice ao' (List.length (l.take k ++ s :: l.drop k)) cp' ∧ Acc encHR 3 70 base w' ao' g' cp' (l.take k ++ s :: l.drop k) ∧ (g' = gb ∨ w0.heap.size ≤ g')) ∧ Upd (fun i => i = gb ∧ base ≤ i) w0 w') := by
 have hcl := ha.cap_le
 have hgl := ha.lt
 have hbl := hb.lt
 refine f_n func140 ?_
 refine go ?_
 refine t_sliceFrom (k) underlying63 sizeOf70 rfl rfl rfl rfl rfl hk hcl ?_
 refine go ?_
 refine q_p (fun g22 => ?_) fun g22 => ?_
 ·
  refine go ?_
  refine t_append2 (z := .agg #[.int .i64 0, .int .i64 0, .slice none 0 0]) (bytes := 40) (k := 3) (base := base) s underlying63 underlying63 (by kernel_rfl) rfl (by decide) (fun _ => rfl) (by intro x; simp [encHR, Value.oneCell']) rfl rfl rfl rfl ha hb (by omega) (by omega) (by decide) (fun ao10 gb11 cp12 w13 A14 u15 gegb11 lngb11 => ?_)
  have zu15 := u15.size
  have lt_gb11 := A14.lt
  refine go ?_
  refine f_1 results140 ?_
  have hxe : (l.take k ++ s :: l.drop k) = l ++ [s] := by rw [show k = l.length by omega, List.take_length, List.drop_length]
  exact ⟨⟨ao10, gb11, cp12, by rw [hxe], by rw [hxe]; exact A14, (by omega)⟩, u_d⟩
 have hkl : k < l.length := by omega
 obtain ⟨hao, hbg, hlc, hcM0, cs0, hB0, hB0l, hB0t⟩ := Acc.raw ha (.inr (by omega))
 subst hao
 have hvg : bv ≠ gb := hvg0 hbg
 have hAtk : At w0 gb 0 ((l.take k).flatMap encHR) := by
   have h9 := (ha.sl (fun _ => rfl)).cellsFrom (k := 3) (by decide) (fun _ => rfl) 0 k
   rw [List.drop_zero, Nat.zero_add, Nat.zero_mul] at h9
   exact h9
 have hgl0 := hB0.lt
 refine go ?_
 refine t_cap underlying63 rfl rfl rfl rfl ?_
 refine go ?_
 refine q_p (fun g31 => ?_) fun g31 => ?_
 ·
  refine go ?_
  refine t_sliceTo (k) underlying63 sizeOf70 rfl rfl rfl rfl rfl (by omega) (t_same 34 (v := .slice (some ⟨gb, 0, none⟩) k cp) rfl (by rw [subAddr_some (by omega)]) ?_)
  refine go ?_
  refine t_appZ (cs := (l.take k).flatMap encHR) (m := l.length + 1 - k) (n := l.length + 1) (off := 0) (z := .agg #[.int .i64 0, .int .i64 0, .slice none 0 0]) (bytes := 40) (k := 3) underlying63 underlying3 (by kernel_rfl) rfl (by decide) rfl rfl rfl rfl (by omega) (by omega) (by omega) (by omega) (by rw [flatMap_len (k := 3) (fun _ => rfl), List.length_take]; omega) hAtk (by omega) (by decide) (fun cN w20 zs hcN hcM hzl B22 u21 => ?_)
  have zu21 := u21.size
  obtain ⟨C0, hC0⟩ : ∃ C, (l.take k).flatMap encHR ++ zs = C := ⟨_, rfl⟩
  rw [hC0] at B22
  have hlN := B22.lt
  have hCl : C0.length = cN * 3 := by rw [← hC0, List.length_append, hzl, flatMap_len (k := 3) (fun _ => rfl), List.length_take]; omega
  have hCt : C0.take (k * 3) = (l.take k).flatMap encHR := by rw [← hC0, List.take_left' (by rw [flatMap_len (k := 3) (fun _ => rfl), List.length_take]; omega)]
  refine go ?_
  refine t_sliceFrom (k) underlying63 sizeOf70 rfl rfl rfl rfl (by omega) (by omega) (by omega) (t_same 43 (v := .slice (some ⟨w0.heap.size, 0 + k * 3, none⟩) ((l.length + 1) - k) (cN - k)) rfl (by rw [subAddr_some (by omega)]) ?_)
  refine go ?_
  have B28 := (hb.kx u21)
  refine t_copyB (k := 3) (cs := C0) (vs := (encHR s)) underlying63 sizeOf70 rfl rfl rfl rfl B22 (B28.at) (by show 3 = min _ _ * 3; omega) (by show 0 + k * 3 + 3 ≤ _; rw [hCl]; omega) (by exact encHR_one s) (fun w25 sw25 B27 u26 => ?_)
  have zu26 := u26.size
  obtain ⟨C1, hC1⟩ : ∃ C, lay C0 (0 + k * 3) (encHR s) = C := ⟨_, rfl⟩
  rw [hC1] at B27
  have lC1 : C1.length = C0.length := by rw [← hC1, lay_length]
  refine go ?_
  refine c_drawnM follows (fun i => i = w0.heap.size) (OTl [0, 2, 4, 6, 8, 10, 12, 14, 17]) (by kernel_rfl) fun w31 u32 => ?_
  have zu32 := u32.size
  refine go ?_
  refine y_sliceFrom ((k + 1)) underlying63 sizeOf70 rfl rfl rfl rfl (by omega) (by omega) (by omega) (y_same 50 (v := .slice (some ⟨w0.heap.size, 0 + (k + 1) * 3, none⟩) ((l.length + 1) - (k + 1)) (cN - (k + 1))) rfl (by rw [subAddr_some (by omega)]) ?_)
  refine go ?_
  refine y_sliceFrom (k) underlying63 sizeOf70 rfl rfl rfl rfl (by omega) (by omega) (by omega) (y_same 53 (v := .slice (some ⟨gb, 0 + k * 3, none⟩) (l.length - k) (cp - k)) rfl (by rw [subAddr_some (by omega)]) ?_)
  refine go ?_
  have D37 := (((ha.keep u21 (fun _ h => h)).keep u26 (fun hb => show ¬ (gb = w0.heap.size) by first | omega | assumption)).keep u32 (fun _ h => h))
  refine t_copyB (k := 3) (cs := C1) (vs := ((l.drop k).flatMap encHR)) underlying63 sizeOf70 rfl rfl rfl rfl (B27.kx u32) (by have h9 := (D37.sl (fun _ => rfl)).cellsFrom (k := 3) (by decide) (fun _ => rfl) k (l.length - k); rwa [List.take_of_length_le (by rw [List.length_drop]; omega)] at h9) (by rw [flatMap_len (k := 3) (fun _ => rfl), List.length_drop]; omega) (by rw [flatMap_len (k := 3) (fun _ => rfl), List.length_drop]; rw [lC1, hCl]; omega) (by intro v hv; obtain ⟨x, _, hv⟩ := List.mem_flatMap.1 hv; exact encHR_one x v hv) (fun w34 sw34 B36 u35 => ?_)
  have zu35 := u35.size
  obtain ⟨C2, hC2⟩ : ∃ C, lay C1 (0 + (k + 1) * 3) ((l.drop k).flatMap encHR) = C := ⟨_, rfl⟩
  rw [hC2] at B36
  have lC2 : C2.length = C1.length := by rw [← hC2, lay_length]
  refine go ?_
  refine f_1 results140 ?_
  have hln : (l.take k ++ s :: l.drop k).length = l.length + 1 := by rw [List.length_append, List.length_cons, List.length_take, List.length_drop]; omega
  refine ⟨⟨some ⟨w0.heap.size, 0, none⟩, w0.heap.size, cN, by rw [hln], Acc.ofRaw (cs := C2) B36 (Nat.le_trans hbs (by omega)) (by rw [hln]; omega) hcM (by rw [lC2, lC1]; exact hCl) ?_, (by first | exact .inl rfl | exact .inr (by omega))⟩, u_d⟩
  rw [hln]
  have h9 := ins_rawA (k := 3) (s := s) (fun _ => rfl) rfl hkl (by rw [hCl]; omega) hCt
  rw [← hC2, ← hC1, Nat.zero_add, Nat.zero_add]
  exact h9
 refine go ?_
 refine t_sliceTo (l.length + 1) underlying63 sizeOf70 rfl rfl rfl rfl (by omega) (by omega) (t_same 60 (v := .slice (some ⟨gb, 0, none⟩) (l.length + 1) cp) rfl (by rw [subAddr_some (by omega)]) ?_)
 refine go ?_
 refine t_sliceFrom ((k + 1)) underlying63 sizeOf70 rfl rfl rfl rfl (by omega) (by omega) (by omega) (t_same 66 (v := .slice (some ⟨gb, 0 + (k + 1) * 3, none⟩) ((l.length + 1) - (k + 1)) (cp - (k + 1))) rfl (by rw [subAddr_some (by omega)]) (t_apart (tS := 63) (tR := 4) (e := 70) func183 (by kernel_rfl) (by kernel_rfl) (by kernel_rfl) (by kernel_rfl) underlying63 sizeOf70 rfl rfl rfl rfl rfl hb hB0 hvg (by rw [hB0l]; omega) ?_))
 refine go ?_
 refine c_drawnM follows (fun i => i = gb) (OTl [0, 2, 4, 6, 8, 10, 12, 14, 17]) (by kernel_rfl) fun w44 u45 => ?_
 have zu45 := u45.size
 refine go ?_
 refine y_sliceFrom ((k + 1)) underlying63 sizeOf70 rfl rfl rfl rfl (by omega) (by omega) (by omega) (y_same 73 (v := .slice (some ⟨gb, 0 + (k + 1) * 3, none⟩) ((l.length + 1) - (k + 1)) (cp - (k + 1))) rfl (by rw [subAddr_some (by omega)]) ?_)
 refine go ?_
 refine y_sliceFrom (k) underlying63 sizeOf70 rfl rfl rfl rfl (by omega) (by omega) (by omega) (y_same 76 (v := .slice (some ⟨gb, 0 + k * 3, none⟩) ((l.length + 1) - k) (cp - k)) rfl (by rw [subAddr_some (by omega)]) ?_)
 refine go ?_
 have D50 := (ha.keep u45 (fun _ h => h))
 refine t_copyB (k := 3) (cs := cs0) (vs := ((l.drop k).flatMap encHR)) underlying63 sizeOf70 rfl rfl rfl rfl (hB0.kx u45) (by have h9 := (D50.sl (fun _ => rfl)).cellsFrom (k := 3) (by decide) (fun _ => rfl) k (l.length - k); rwa [List.take_of_length_le (by rw [List.length_drop]; omega)] at h9) (by rw [flatMap_len (k := 3) (fun _ => rfl), List.length_drop]; omega) (by rw [flatMap_len (k := 3) (fun _ => rfl), List.length_drop]; rw [hB0l]; omega) (by intro v hv; obtain ⟨x, _, hv⟩ := List.mem_flatMap.1 hv; exact encHR_one x v hv) (fun w47 sw47 B49 u48 => ?_)
 have zu48 := u48.size
 obtain ⟨C1, hC1⟩ : ∃ C, lay cs0 (0 + (k + 1) * 3) ((l.drop k).flatMap encHR) = C := ⟨_, rfl⟩
 rw [hC1] at B49
 have lC1 : C1.length = cs0.length := by rw [← hC1, lay_length]
 refine go ?_
 refine t_sliceFrom (k) underlying63 sizeOf70 rfl rfl rfl rfl (by omega) (by omega) (by omega) (t_same 80 (v := .slice (some ⟨gb, 0 + k * 3, none⟩) ((l.length + 1) - k) (cp - k)) rfl (by rw [subAddr_some (by omega)]) ?_)
 refine go ?_
 have B56 := ((hb.kx u45).keep u48 (by omega))
 refine t_copyB (k := 3) (cs := C1) (vs := (encHR s)) underlying63 sizeOf70 rfl rfl rfl rfl B49 (B56.at) (by show 3 = min _ _ * 3; omega) (by show 0 + k * 3 + 3 ≤ _; rw [lC1, hB0l]; omega) (by exact encHR_one s) (fun w53 sw53 B55 u54 => ?_)
 have zu54 := u54.size
 obtain ⟨C2, hC2⟩ : ∃ C, lay C1 (0 + k * 3) (encHR s) = C := ⟨_, rfl⟩
 rw [hC2] at B55
 have lC2 : C2.length = C1.length := by rw [← hC2, lay_length]
 refine go ?_
 refine f_1 results140 ?_
 have hln : (l.take k ++ s :: l.drop k).length = l.length + 1 := by rw [List.length_append, List.length_cons, List.length_take, List.length_drop]; omega
 refine ⟨⟨some ⟨gb, 0, none⟩, gb, cp, by rw [hln], Acc.ofRaw (cs := C2) B55 (hbg) (by rw [hln]; omega) hcM0 (by rw [lC2, lC1]; exact hB0l) ?_, (by first | exact .inl rfl | exact .inr (by omega))⟩, u_d⟩
 rw [hln]
 have h9 := ins_rawB (k := 3) (s := s) (fun _ => rfl) rfl hkl (by rw [hB0l]; omega) (raw_take (k := 3) (fun _ => rfl) hB0t (by omega))
 rw [← hC2, ← hC1, Nat.zero_add, Nat.zero_add]
 exact h9

end Go.Proofs.YtagmkfbbhfaceaaGreatDoor
namespace Go.Proofs.YtagmkfbbhfaceaaGreatDoor
open Go Go.RowKit Go.Proofs.Tryz
set_option maxRecDepth 10000
section
variable {P : Program} {ops : Array Oper} {Q : Exit → Act → World → Prop} {N : Nat} {ds : List Deferred} {rest : List Oper} {L : Slots} {w : World} {rd : Option Nat} {d : Nat} {ty : TypeId} {pos : String} {aft : Array Edge} {g : Option (Nat × Bool)}
theorem t_slice3 {t e : TypeId} {x lo hi mx : Operand} {ao : Option Addr} {n cap k : Nat} {kl kh km : IntKind} {ml mh mm : Int} (l h' m' : Nat) (hu : P.underlying t = some (.slice e)) (hsz : ∀ w, (sizeOf e).run P w = .ok k w)
    (hg : grd ops L g = true) (hN : Nat.blt d N = true) (hx : ev L x = some (.slice ao n cap)) (hlo : ev L lo = some (.int kl ml)) (hhi : ev L hi = some (.int kh mh)) (hmx : ev L mx = some (.int km mm)) (e1 : ml = l) (e2 : mh = h') (e3 : mm = m') (b1 : l ≤ h') (b2 : h' ≤ m') (b3 : m' ≤ cap)
    (h : WL rd P ops Q N ds rest ((d, .slice (subAddr ao m' l k) (h' - l) (m' - l)) :: L) w) : WL rd P ops Q N ds (⟨some d, .slice t x (some lo) (some hi) (some mx), ty, pos, aft, g⟩ :: rest) L w :=
  WL.value hg rfl hN (fun a hk => by
    subst e1 e2 e3
    simp [execOp, Instr.sliceAt, run_underlying hu, Instr.slice, Instr.sliceBounds, Instr.sliceBound, hk.ev hx, hk.ev hlo, hk.ev hhi, hk.ev hmx, asIntOf, b1, b2, b3, hsz, subAddr]) h
/-- append(s[:i], s[j:]...) where there is room. -/
theorem t_appIn {t e : TypeId} {z : Value} {bytes k n1 cap m c so b : Nat} {cs vs : List Value} {s x : Operand} (hu : P.underlying t = some (.slice e)) (hi : (P.info? e).map (fun i => (i.zero, i.size, i.bytes)) = some (some z, k, bytes))
    (hg : grd ops L g = true) (hN : Nat.blt d N = true) (hs : ev L s = some (.slice (some ⟨b, 0, none⟩) n1 cap)) (hx : ev L x = some (.slice (some ⟨b, so, none⟩) m c)) (hB : Blk w b e cs) (ha : At w b so vs) (hn : vs.length = m * k) (hroom : n1 + m ≤ cap) (hf : n1 * k + vs.length ≤ cs.length) (h1 : ∀ v ∈ vs, v.oneCell' = true)
    (h : ∀ w', w'.heap.size = w.heap.size → Blk w' b e (lay cs (n1 * k) vs) → Upd (· = b) w w' → WL rd P ops Q N ds rest ((d, .slice (some ⟨b, 0, none⟩) (n1 + m) cap) :: L) w') :
    WL rd P ops Q N ds (⟨some d, .call ⟨.builtin .append, #[s, x], #[t, t]⟩, ty, pos, aft, g⟩ :: rest) L w := by
  obtain ⟨i, hi0, hi1, hi2, hi3⟩ := info_parts' hi
  obtain ⟨w', hr, hb', hu', hz'⟩ := run_storeCells (P := P) vs w cs (n1 * k) 0 hB (by omega) h1
  refine WL.value hg rfl hN (fun a hk => ?_) (h w' hz' (by simpa using hb') hu')
  have hfc := run_firstCells_some (P := P) w i.size m ⟨b, so, none⟩ m c vs (by rw [hn, hi2]) (fun j u hj => by simpa [addr_add] using ha j u hj)
  rw [hi2] at hfc
  have hr2 : (Builtin.append_ #[t, t] ty #[.slice (some ⟨b, 0, none⟩) n1 cap, .slice (some ⟨b, so, none⟩) m c]).run P w = .ok (.slice (some ⟨b, 0, none⟩) (n1 + m) cap) w' := by
    simp [Builtin.append_, run_underlying hu, sizeOf, typeInfo, hi0, Builtin.lenOf, hroom, hfc, Addr.add_lit, hi2, hr]
  simp only [execOp, resolve, invoke, builtin]
  simp [hk.ev hs, hk.ev hx, hr2]
end
theorem del_raw {α : Type} {enc : α → List Value} {k m : Nat} (hk : ∀ x, (enc x).length = k) {xs : List α} {C : List Value} (hm : m < xs.length) (hC : xs.length * k ≤ C.length) (ht : C.take (xs.length * k) = xs.flatMap enc) :
    (lay C (m * k) ((xs.drop (m + 1)).flatMap enc)).take (xs.length * k) = (xs.take m ++ xs.drop (m + 1) ++ xs.drop (xs.length - 1)).flatMap enc := by
  have l1 : ((xs.drop (m + 1)).flatMap enc).length = (xs.length - (m + 1)) * k := by rw [flatMap_len hk, List.length_drop]
  have e1 : m * k + (xs.length - (m + 1)) * k = (xs.length - 1) * k := by rw [← Nat.add_mul]; congr 1; omega
  have e2 : xs.length * k = (xs.length - 1) * k + k := by rw [← Nat.succ_mul]; congr 1; omega
  rw [lay_eq (by rw [l1, e1]; omega), l1, e1, List.flatMap_append, List.flatMap_append, raw_take hk ht (by omega)]
  have l2 : ((xs.take m).flatMap enc ++ (xs.drop (m + 1)).flatMap enc).length = (xs.length - 1) * k := by rw [List.length_append, l1, flatMap_len hk, List.length_take, Nat.min_eq_left (by omega), e1]
  rw [List.take_append, List.take_of_length_le (by rw [l2]; omega), l2]
  congr 1
  rw [show xs.length * k - (xs.length - 1) * k = k by omega]
  have h9 : (C.drop ((xs.length - 1) * k)).take k = (C.take (xs.length * k)).drop ((xs.length - 1) * k) := by rw [List.drop_take]; congr 1; omega
  rw [h9, ht]
  have e3 : xs.flatMap enc = (xs.take (xs.length - 1)).flatMap enc ++ (xs.drop (xs.length - 1)).flatMap enc := by rw [← List.flatMap_append, List.take_append_drop]
  rw [e3, List.drop_left' (by rw [flatMap_len hk, List.length_take, Nat.min_eq_left (by omega)])]
set_option maxHeartbeats 4000000 in
theorem delete0_c (l : List Crg) (gb cap base k : Nat) (w0 : World) (ha : Acc encCrg 2 72 base w0 (some ⟨gb, 0, none⟩) gb cap l) (hk : k < l.length) (hll : l.length ≤ 100000) :
    CallsV Tryz.prog 182 [.slice (some ⟨gb, 0, none⟩) l.length cap, .int .i64 (k : Int), .int .i64 ((k + 1 : Nat) : Int)] w0 (fun v w' => (v = .slice (some ⟨gb, 0, none⟩) (List.length (l.take k ++ l.drop (k + 1))) cap ∧ Acc encCrg 2 72 base w' (some ⟨gb, 0, none⟩) gb cap (l.take k ++ l.drop (k + 1))) ∧ Upd (fun i => i = gb ∧ base ≤ i) w0 w') := by
 obtain ⟨-, hbg, hlc, hcM, cs0, hB0, hB0l, hB0t⟩ := Acc.raw ha (.inr (by omega))
 have lt_gb := ha.lt
 have hxl : ((l.take k ++ l.drop (k + 1) ++ l.drop (l.length - 1))).length = l.length := by simp only [List.length_append, List.length_take, List.length_drop]; omega
 obtain ⟨so, hso, hat⟩ : ∃ so, subAddr (some ⟨gb, 0, none⟩) cap (k + 1) 2 = some ⟨gb, so, none⟩ ∧ At w0 gb so ((l.drop (k + 1)).flatMap encCrg) := by
   by_cases hc : k + 1 < cap
   · refine ⟨_, subAddr_some hc, ?_⟩
     have h9 := (ha.sl (fun _ => rfl)).cellsFrom (k := 2) (by decide) (fun _ => rfl) (k + 1) (l.length - (k + 1))
     rwa [List.take_of_length_le (by rw [List.length_drop]; omega)] at h9
   · refine ⟨0, by unfold subAddr; rw [if_pos (by omega)], ?_⟩
     rw [List.drop_of_length_le (by omega)]
     intro j u hj
     simp at hj
 refine f_n func182 ?_
 refine go ?_
 refine t_slice3 k (k + 1) l.length underlying64 sizeOf72 rfl rfl rfl rfl rfl rfl rfl (by omega) rfl (by omega) (by omega) (by omega) ?_
 refine go ?_
 refine q_p (fun g16 => ?_) fun g16 => ?_
 ·
  exact absurd g16 (by omega)
 refine go ?_
 refine c_drawnM follows (fun i => i = gb) (OTl [0, 2, 4, 6, 8, 10, 13, 14]) (by kernel_rfl) fun w7 u8 => ?_
 have zu8 := u8.size
 refine go ?_
 refine y_sliceTo k underlying64 sizeOf72 rfl rfl rfl rfl rfl (by omega) (y_same 22 (v := .slice (some ⟨gb, 0, none⟩) k cap) rfl (by rw [subAddr0]) ?_)
 refine go ?_
 refine y_sliceFrom (k + 1) underlying64 sizeOf72 rfl rfl rfl rfl (by omega) (by omega) (by omega) (y_same 25 (v := .slice (some ⟨gb, so, none⟩) (l.length - (k + 1)) (cap - (k + 1))) rfl (by rw [hso]) ?_)
 refine go ?_
 have hB00 := (hB0.kx u8)
 have hat0 := (hat.keep u8 (by omega) (fun h => h))
 refine t_appIn (vs := (l.drop (k + 1)).flatMap encCrg) (z := .agg #[.int .i64 0, .int .i64 0]) (bytes := 16) (k := 2) underlying64 (by kernel_rfl) rfl rfl rfl rfl hB00 hat0 (by rw [flatMap_len (k := 2) (fun _ => rfl), List.length_drop]) (by omega) (by rw [flatMap_len (k := 2) (fun _ => rfl), List.length_drop, hB0l]; omega) (fun v hv => by obtain ⟨x, _, hv⟩ := List.mem_flatMap.1 hv; exact encCrg_one x v hv) (fun w10 sw10 hB1 u11 => ?_)
 have zu11 := u11.size
 have hac : Acc encCrg 2 72 base w10 (some ⟨gb, 0, none⟩) gb cap (l.take k ++ l.drop (k + 1) ++ l.drop (l.length - 1)) := Acc.ofRaw hB1 hbg (by rw [hxl]; omega) hcM (by rw [lay_length, hB0l]) (by rw [hxl]; exact del_raw (k := 2) (fun _ => rfl) hk (by rw [hB0l]; omega) hB0t)
 have lt_gb := hac.lt
 refine t_same 26 (v := .slice (some ⟨gb, 0, none⟩) (l.length - 1) cap) rfl (by congr 1; omega) ?_
 refine go ?_
 refine t_slice (l.length - 1) l.length underlying64 sizeOf72 rfl rfl rfl rfl rfl (by omega) (by omega) (by omega) (by omega) (t_clear (enc := encCrg) (k := 2) (xs := (l.take k ++ l.drop (k + 1) ++ l.drop (l.length - 1))) underlying64 rfl zeroValue72 rfl (by decide) (fun _ => rfl) rfl rfl (by omega) (by omega) hac (fun w14 sw14 A16 u15 => ?_))
 have lt_gb := A16.lt
 refine go ?_
 refine f_1 results182 ?_
 have hxt : (l.take k ++ l.drop (k + 1) ++ l.drop (l.length - 1)).take (l.length - 1) = (l.take k ++ l.drop (k + 1)) := List.take_left' (by simp only [List.length_append, List.length_take, List.length_drop]; omega)
 rw [hxt] at A16
 exact ⟨⟨by congr 1; simp only [List.length_append, List.length_take, List.length_drop]; omega, A16⟩, u_d⟩

end Go.Proofs.YtagmkfbbhfaceaaGreatDoor
namespace Go.Proofs.YtagmkfbbhfaceaaGreatDoor
open Go Go.RowKit
theorem lay_get : ∀ (vs cs : List Value) (i q : Nat), i + vs.length ≤ cs.length → (lay cs i vs)[q]? = if i ≤ q ∧ q < i + vs.length then vs[q - i]? else cs[q]?
  | [], cs, i, q, _ => by rw [if_neg (by simp only [List.length_nil]; omega)]; rfl
  | v :: vs, cs, i, q, h => by
    have hl : i < cs.length := by simp at h; omega
    show (lay (cs.set i v) (i + 1) vs)[q]? = _
    rw [lay_get vs (cs.set i v) (i + 1) q (by simp at h ⊢; omega)]
    by_cases h1 : q = i
    · subst h1
      rw [if_neg (by omega), if_pos (by simp), List.getElem?_set_self hl]
      simp
    · by_cases h2 : i + 1 ≤ q ∧ q < i + 1 + vs.length
      · rw [if_pos h2, if_pos (by simp; omega), show q - i = (q - (i + 1)) + 1 by omega]
        rfl
      · rw [if_neg h2, if_neg (by simp; omega), List.getElem?_set_ne (by omega)]
/-- A block of the call's own whose first cells are the elements xs. -/
structure Wr {α : Type} [Inhabited α] (enc : α → List Value) (k : Nat) (e : TypeId) (w : World) (g : Nat) (xs : List α) : Prop where
  at_ : 0 < xs.length → ∃ cur : Array Value, w.heap[g]? = some (.cells cur e (0, 0)) ∧ xs.length * k ≤ cur.size ∧ ∀ i, i < xs.length → ∀ (r : Nat) (v : Value), (enc (nth xs i))[r]? = some v → cur[i * k + r]? = some v
section
variable {α : Type} [Inhabited α] {enc : α → List Value} {k : Nat} {e : TypeId} {w w' : World} {g : Nat} {xs : List α}
theorem Acc.wr {base : Nat} {ao : Option Addr} {cap : Nat} (h : Acc enc k e base w ao g cap xs) (hk : ∀ x, (enc x).length = k) : Wr enc k e w g xs := ⟨fun hp => by
  rcases h.at_ with ⟨_, h1, _⟩ | ⟨_, _, cur, hc, hl, _, hsz, htk⟩
  · subst h1; simp at hp
  · refine ⟨cur, hc, by rw [hsz]; exact Nat.mul_le_mul_right k hl, fun i hi r v hv => ?_⟩
    have h1 := flatMap_at hk xs i r v hi hv
    rw [← htk, List.getElem?_take] at h1
    split at h1
    · simpa using h1
    · cases h1⟩
theorem Wr.lt (h : Wr enc k e w g xs) (hp : 0 < xs.length) : g < w.heap.size := by
  obtain ⟨cur, hc, _⟩ := h.at_ hp
  exact (Array.getElem?_eq_some_iff.1 hc).1
theorem Wr.keep {S : Nat → Prop} (h : Wr enc k e w g xs) (u : Upd S w w') (hn : 0 < xs.length → ¬ S g) : Wr enc k e w' g xs := ⟨fun hp => by
  obtain ⟨cur, hc, hr⟩ := h.at_ hp
  exact ⟨cur, (u.block g (h.lt hp) (hn hp)).trans hc, hr⟩⟩
theorem Wr.sl {ao : Option Addr} (h : Wr enc k e w g xs) (ha : 0 < xs.length → ao = some ⟨g, 0, none⟩) : Sl enc k w ao g 0 xs :=
  ⟨ha, h.lt, fun i hi j v hv => by
    obtain ⟨cur, hc, hs, hr⟩ := h.at_ (by omega)
    have hB : Blk w g e cur.toList := by simpa [Blk] using hc
    rw [Nat.zero_add]
    exact hB.get (by simpa using hr i hi j v hv)⟩
end
section
variable {rd : Option Nat} {P : Program} {ops : Array Oper} {Q : Exit → Act → World → Prop} {N : Nat} {ds : List Deferred} {rest : List Oper} {L : Slots} {w : World}
variable {ty : TypeId} {pos : String} {aft : Array Edge} {gd : Option (Nat × Bool)}
/-- A quotient whose value is known. -/
theorem t_quoV {xt yt : TypeId} {x y : Operand} {d : Nat} {m n : Int} (q : Int) (hg : grd ops L gd = true) (hN : Nat.blt d N = true) (hx : ev L x = some (.int .i64 m)) (hy : ev L y = some (.int .i64 n)) (hn : n ≠ 0) (hq : m.tdiv n = q) (hr : -9223372036854775808 ≤ q ∧ q ≤ 9223372036854775807)
    (h : WL rd P ops Q N ds rest ((d, .int .i64 q) :: L) w) : WL rd P ops Q N ds (⟨some d, .binOp .quo xt x y yt, ty, pos, aft, gd⟩ :: rest) L w :=
  WL.value hg rfl hN (fun a ha => by
    have e1 := ha.ev hx
    have e2 := ha.ev hy
    have e3 : IntKind.i64.wrap (m.tdiv n) = q := by rw [hq]; exact IntWalk.i64_in _ hr
    simp [execOp, e1, e2, eqGuard, binOp, Op.intDiv, e3, hn]) h
end
end Go.Proofs.YtagmkfbbhfaceaaGreatDoor
namespace Go.Proofs.YtagmkfbbhfaceaaGreatDoor
open Go Go.RowKit
/-- A gathered slice, put together again from its elements. -/
theorem Acc.ofWr {α : Type} [Inhabited α] {enc : α → List Value} {k : Nat} {e : TypeId} {base : Nat} {w w' : World} {ao : Option Addr} {g cap : Nat} {xs ys : List α} (h : Acc enc k e base w ao g cap xs) (hk : ∀ x, (enc x).length = k) (hp : 0 < xs.length)
    (hw : Wr enc k e w' g ys) (hl : ys.length = xs.length) (hsz : ∀ cur : Array Value, w.heap[g]? = some (.cells cur e (0, 0)) → ∃ cur' : Array Value, w'.heap[g]? = some (.cells cur' e (0, 0)) ∧ cur'.size = cur.size) : Acc enc k e base w' ao g cap ys := by
  rcases h.at_ with ⟨_, h1, _⟩ | ⟨h1, h2, cur, h3, h4, h5, h6, _⟩
  · subst h1; simp at hp
  · obtain ⟨cur', hc, hs⟩ := hsz cur h3
    obtain ⟨cur2, hc2, hs2, hr⟩ := hw.at_ (by omega)
    rw [hc] at hc2
    injection hc2 with hc2
    injection hc2 with hc2
    subst hc2
    refine ⟨lt_of_block hc, .inr ⟨h1, h2, cur', hc, by omega, h5, by rw [hs, h6], ?_⟩⟩
    refine List.ext_getElem? fun q => ?_
    by_cases hq : q < ys.length * k
    · have hk0 : 0 < k := by
        rcases Nat.eq_zero_or_pos k with h | h
        · subst h; simp at hq
        · exact h
      have hi : q / k < ys.length := (Nat.div_lt_iff_lt_mul hk0).2 hq
      have hqr : q / k * k + q % k = q := by rw [Nat.mul_comm]; exact Nat.div_add_mod q k
      have hlt : q % k < (enc (nth ys (q / k))).length := by rw [hk]; exact Nat.mod_lt _ hk0
      have hv := List.getElem?_eq_getElem hlt
      have e1 := hr (q / k) hi (q % k) _ hv
      have e2 := flatMap_at hk ys (q / k) (q % k) _ hi hv
      rw [hqr] at e1 e2
      rw [List.getElem?_take, if_pos hq, e2]
      simpa using e1
    · rw [List.getElem?_eq_none (by rw [List.length_take]; omega), List.getElem?_eq_none (by rw [flatMap_len hk]; omega)]
theorem wr_set {α : Type} [Inhabited α] {enc : α → List Value} {k : Nat} {e : TypeId} {w w' : World} {g j o' off n : Nat} {xs : List α} {vs : List Value} {x' : α} {cur : List Value} (hk : ∀ x, (enc x).length = k) (hw : Wr enc k e w g xs) (hj : j < xs.length) (hB : Blk w g e cur) (hB' : Blk w' g e (lay cur off vs)) (hn : vs.length = n) (hl : o' + n ≤ k) (hx' : enc x' = lay (enc (nth xs j)) o' vs) (hoff : off = j * k + o') : Wr enc k e w' g (xs.set j x') := by
  subst hoff
  obtain ⟨cur2, hcur, hsz, hr⟩ := hw.at_ (by omega)
  have e1 : cur2 = cur.toArray := by
    have : w.heap[g]? = some (.cells cur.toArray e (0, 0)) := hB
    rw [hcur] at this
    injection this with this
    injection this with this
  subst e1
  have hjk : (j + 1) * k ≤ xs.length * k := Nat.mul_le_mul_right k hj
  rw [Nat.add_mul, Nat.one_mul] at hjk
  rw [List.size_toArray] at hsz
  have hle : j * k + o' + n ≤ cur.length := by omega
  refine ⟨fun hp => ⟨(lay cur (j * k + o') vs).toArray, hB', by rw [List.length_set, List.size_toArray, lay_length]; exact hsz, fun i hi r z hz => ?_⟩⟩
  rw [List.length_set] at hi
  rw [List.getElem?_toArray, lay_get _ _ _ _ (by rw [hn]; exact hle)]
  by_cases hij : i = j
  · subst hij
    rw [show nth (xs.set i x') i = x' by simp [nth, List.getD_eq_getElem?_getD, hi]] at hz
    rw [hx', lay_get _ _ _ _ (by rw [hn, hk]; exact hl)] at hz
    by_cases hc1 : o' ≤ r ∧ r < o' + vs.length
    · rw [if_pos hc1] at hz
      rw [if_pos (by omega), show i * k + r - (i * k + o') = r - o' by omega]; exact hz
    · rw [if_neg hc1] at hz
      rw [if_neg (by omega)]
      have := hr i hi r z hz
      simpa using this
  · rw [show nth (xs.set j x') i = nth xs i by simp [nth, List.getD_eq_getElem?_getD, List.getElem?_set_ne (Ne.symm hij)]] at hz
    have hrk : r < k := by
      have := (List.getElem?_eq_some_iff.1 hz).1
      rwa [hk] at this
    have := hr i hi r z hz
    rw [if_neg ?_]
    · simpa using this
    · intro hcc
      rcases Nat.lt_or_gt_of_ne hij with h1 | h1
      · have : (i + 1) * k ≤ j * k := Nat.mul_le_mul_right k h1
        rw [Nat.add_mul, Nat.one_mul] at this
        omega
      · have : (j + 1) * k ≤ i * k := Nat.mul_le_mul_right k h1
        rw [Nat.add_mul, Nat.one_mul] at this
        omega
section
variable {rd : Option Nat} {P : Program} {ops : Array Oper} {Q : Exit → Act → World → Prop} {N : Nat} {ds : List Deferred} {rest : List Oper} {L : Slots} {w : World}
variable {ty : TypeId} {pos : String} {aft : Array Edge} {gd : Option (Nat × Bool)}
/-- A store into an element of a gathered slice: the element is x'. -/
theorem t_storeA {α : Type} [Inhabited α] {enc : α → List Value} {k : Nat} {u e : TypeId} {x y : Operand} {base : Nat} {ao : Option Addr} {g cap j o' off n : Nat} {xs : List α} {vs : List Value} {v : Value} (x' : α) (hk : ∀ x, (enc x).length = k) (hs : ∀ w, (sizeOf u).run P w = .ok n w) (hg : grd ops L gd = true)
    (hx : ev L x = some (.pointer (some ⟨g, off, none⟩))) (hoff : off = j * k + o') (hy : ev L y = some v) (hw : Acc enc k e base w ao g cap xs) (hj : j < xs.length) (hc : v.cells = vs.toArray) (hn : vs.length = n) (hl : o' + n ≤ k) (hv : ∀ v ∈ vs, v.oneCell' = true) (hx' : enc x' = lay (enc (nth xs j)) o' vs)
    (h : ∀ w', Acc enc k e base w' ao g cap (xs.set j x') → Upd (· = g) w w' → WL rd P ops Q N ds rest L w') :
    WL rd P ops Q N ds (⟨none, .store u x y, ty, pos, aft, gd⟩ :: rest) L w := by
  have hwr := hw.wr hk
  obtain ⟨cur, hcur, hsz, hr⟩ := hwr.at_ (by omega)
  have hB : Blk w g e cur.toList := by simpa [Blk] using hcur
  have hjk : (j + 1) * k ≤ xs.length * k := Nat.mul_le_mul_right k hj
  rw [Nat.add_mul, Nat.one_mul] at hjk
  have hle : off + n ≤ cur.toList.length := by rw [Array.length_toList, hoff]; omega
  refine t_store (b := g) (t := e) hs hg hx hy hB hc hn hle hv fun w' hsize hB' hu => ?_
  refine h w' (hw.ofWr hk (by omega) (ys := xs.set j x') ?_ (by rw [List.length_set]) fun c2 hc2 => ?_) hu
  · exact wr_set hk hwr hj hB hB' hn hl hx' hoff
  · rw [hcur] at hc2
    injection hc2 with hc2
    injection hc2 with hc2
    subst hc2
    exact ⟨(lay cur.toList off vs).toArray, hB', by rw [List.size_toArray, lay_length, Array.length_toList]⟩
end
end Go.Proofs.YtagmkfbbhfaceaaGreatDoor
namespace Go.Proofs.YtagmkfbbhfaceaaGreatDoor
open Go Go.RowKit Go.Proofs.Tryz
set_option maxRecDepth 10000
/-- the tons of a bill, or of all for 0 -/
def tonP (bill : Int) : List Crg → Int
  | [] => 0
  | x :: l => (if bill = 0 ∨ x.b = bill then x.t else 0) + tonP bill l
theorem tonP_app (bill : Int) : ∀ (l m : List Crg), tonP bill (l ++ m) = tonP bill l + tonP bill m
  | [], m => by simp [tonP]
  | x :: l, m => by simp only [List.cons_append, tonP, tonP_app bill l m]; omega
theorem tonP_snoc (bill : Int) (l : List Crg) (x : Crg) : tonP bill (l ++ [x]) = tonP bill l + (if bill = 0 ∨ x.b = bill then x.t else 0) := by rw [tonP_app]; simp [tonP]
theorem tonP_range {bill : Int} : ∀ {l : List Crg}, (∀ x ∈ l, 0 ≤ x.t ∧ x.t ≤ 1000000000000) → 0 ≤ tonP bill l ∧ tonP bill l ≤ 1000000000000 * (l.length : Int)
  | [], _ => by simp [tonP]
  | x :: l, h => by
    have h1 := tonP_range (bill := bill) (l := l) fun y hy => h y (List.mem_cons_of_mem _ hy)
    have h2 := h x (List.mem_cons_self ..)
    unfold tonP
    rw [List.length_cons]
    split <;> omega
/-- tons are booked in a list -/
def bookP (bill tons : Int) : List Crg → List Crg
  | [] => if tons = 0 then [] else [⟨bill, tons⟩]
  | x :: r => if x.b < bill then x :: bookP bill tons r else if x.b = bill then (if x.t + tons = 0 then r else ⟨bill, x.t + tons⟩ :: r) else if tons = 0 then x :: r else ⟨bill, tons⟩ :: x :: r
theorem isK_iff {α : Type} [Inhabited α] {ky : α → Int} {n : Int} {l : List α} : isK ky n l = true ↔ posK ky n l < l.length ∧ ky (nth l (posK ky n l)) = n := by unfold isK; rw [decide_eq_true_eq]
theorem bookP_is {bill tons : Int} : ∀ {l : List Crg}, posK (fun x : Crg => x.b) bill l < l.length → (nth l (posK (fun x : Crg => x.b) bill l)).b = bill →
    bookP bill tons l = (if (nth l (posK (fun x : Crg => x.b) bill l)).t + tons = 0 then l.take (posK (fun x : Crg => x.b) bill l) ++ l.drop (posK (fun x : Crg => x.b) bill l + 1) else l.set (posK (fun x : Crg => x.b) bill l) ⟨bill, (nth l (posK (fun x : Crg => x.b) bill l)).t + tons⟩)
  | [], h, _ => absurd h (Nat.not_lt_zero _)
  | x :: l, h, e => by
    unfold bookP posK
    unfold posK at h e
    by_cases hx : x.b < bill
    · simp only [if_pos hx] at h e ⊢
      have h1 : posK (fun x : Crg => x.b) bill l < l.length := by simpa using h
      rw [bookP_is h1 e]
      show x :: (if (nth l (posK (fun x : Crg => x.b) bill l)).t + tons = 0 then _ else _) = if (nth l (posK (fun x : Crg => x.b) bill l)).t + tons = 0 then _ else _
      split <;> rfl
    · simp only [if_neg hx] at h e ⊢
      have e : x.b = bill := e
      rw [if_pos e]; rfl
theorem bookP_no {bill tons : Int} : ∀ {l : List Crg}, ¬ (posK (fun x : Crg => x.b) bill l < l.length ∧ (nth l (posK (fun x : Crg => x.b) bill l)).b = bill) →
    bookP bill tons l = (if tons = 0 then l else l.take (posK (fun x : Crg => x.b) bill l) ++ ⟨bill, tons⟩ :: l.drop (posK (fun x : Crg => x.b) bill l))
  | [], _ => by unfold bookP posK; split <;> rfl
  | x :: l, h => by
    unfold bookP posK
    unfold posK at h
    by_cases hx : x.b < bill
    · simp only [if_pos hx] at h ⊢
      rw [bookP_no (l := l) fun q => h ⟨by simpa using q.1, q.2⟩]
      split <;> rfl
    · simp only [if_neg hx] at h ⊢
      have e : ¬ x.b = bill := fun q => h ⟨by simp, q⟩
      rw [if_neg e]; rfl
/-- A list of cargo in order. -/
def CgOk (T : Int) (l : List Crg) : Prop := Asc (fun x : Crg => x.b) l ∧ ∀ x ∈ l, (1 ≤ x.b ∧ x.b ≤ 9999) ∧ (1 ≤ x.t ∧ x.t ≤ T)
theorem Asc.len {α : Type} [Inhabited α] {ky : α → Int} {l : List α} {m : Int} (h : Asc ky l) (hr : ∀ x ∈ l, 1 ≤ ky x ∧ ky x ≤ m) (hm : 0 ≤ m) : (l.length : Int) ≤ m := by
  have h1 : ∀ i, i < l.length → (i : Int) + 1 ≤ ky (nth l i) := fun i => by
    induction i with
    | zero => intro hi; have := (hr _ (nth_mem hi)).1; omega
    | succ i ih => intro hi; have := ih (by omega); have := h i (i + 1) (by omega) hi; omega
  rcases Nat.eq_zero_or_pos l.length with e | e
  · omega
  · have h2 := h1 (l.length - 1) (by omega)
    have h3 := (hr _ (nth_mem (show l.length - 1 < l.length by omega))).2
    omega
theorem CgOk.len {T : Int} {l : List Crg} (h : CgOk T l) : l.length ≤ 9999 := by
  have := h.1.len (m := 9999) (fun x hx => (h.2 x hx).1) (by decide)
  omega
theorem ins_nth {α : Type} [Inhabited α] {l : List α} {k : Nat} (h : k ≤ l.length) (s : α) : nth (l.take k ++ s :: l.drop k) k = s ∧ (l.take k ++ s :: l.drop k).length = l.length + 1 := by
  have h1 : (l.take k).length = k := by rw [List.length_take]; omega
  refine ⟨?_, by rw [List.length_append, List.length_cons, h1, List.length_drop]; omega⟩
  unfold nth
  rw [List.getD_eq_getElem?_getD, List.getElem?_append_right (by omega), h1]
  simp
theorem set_less {α : Type} (l : List α) (k : Nat) (s : α) : (l.set k s).take k ++ (l.set k s).drop (k + 1) = l.take k ++ l.drop (k + 1) := by
  rw [List.take_set_of_le (Nat.le_refl _), List.drop_set_of_lt (by omega)]
theorem ins_less {α : Type} {l : List α} {k : Nat} (h : k ≤ l.length) (s : α) : (l.take k ++ s :: l.drop k).take k ++ (l.take k ++ s :: l.drop k).drop (k + 1) = l := by
  have h1 : (l.take k).length = k := by rw [List.length_take]; omega
  rw [List.take_left' h1, List.drop_append, h1, List.drop_of_length_le (by omega), show k + 1 - k = 1 by omega]
  simp
theorem ins_set {α : Type} {l : List α} {k : Nat} (h : k ≤ l.length) (s t : α) : (l.take k ++ s :: l.drop k).set k t = l.take k ++ t :: l.drop k := by
  have h1 : (l.take k).length = k := by rw [List.length_take]; omega
  rw [List.set_append_right _ _ (by omega), h1, Nat.sub_self]; rfl
theorem nth_setE {α : Type} [Inhabited α] {l : List α} {k : Nat} (h : k < l.length) (s : α) : nth (l.set k s) k = s := by
  unfold nth; rw [List.getD_eq_getElem?_getD, List.getElem?_set_self h]; rfl
theorem set_same {α : Type} {cs : List α} {i : Nat} {v : α} (h : cs[i]? = some v) : cs.set i v = cs := by
  obtain ⟨h1, h2⟩ := List.getElem?_eq_some_iff.1 h
  rw [← h2, List.set_getElem_self]
theorem aboard_c (hb off : Nat) (x : HR) (bill : Int) (w0 : World) (hA : At w0 hb off (encHR x)) (_hb0 : hb < w0.heap.size) (hc : Sl encCrg 2 w0 x.ao x.g x.o x.c) (hct : ∀ y ∈ x.c, 0 ≤ y.t ∧ y.t ≤ 1000000000000) (hcl : x.c.length ≤ 9999) :
    CallsV Tryz.prog 138 [.pointer (some ⟨hb, off, none⟩), .int .i64 bill] w0 (fun v w' => v = .int .i64 (tonP bill x.c) ∧ Ext w0 w') := by
 refine f_n func138 ?_
 refine go ?_
 refine t_load isAgg64 rfl rfl rfl (hA 2 _ rfl) ?_
 refine go ?_
 refine x_l1 (fun _ => False) [1, 10, 11] (fun (i : Nat) => [(4, .int .i64 (tonP bill (x.c.take i))), (12, .int .i64 (i : Int))]) (fun i w => (i ≤ x.c.length)) (fun i => x.c.length - i) 0 (Nat.zero_le _) ?_
 rintro i w5 hi u6 zu6 K4 hK4
 have hr0 := tonP_range (bill := bill) (l := x.c.take i) fun y hy => hct y (List.mem_of_mem_take hy)
 have hil : (x.c.take i).length = i := by rw [List.length_take]; omega
 rw [hil] at hr0
 refine go ?_
 refine q_p (fun g13 => ?_) fun g13 => ?_
 ·
  have hx1 := hct _ (nth_mem (show i < x.c.length by omega))
  refine go ?_
  refine g_i i (hc.keep ((Upd.refl (fun _ => False) w0).nx u6) (fun _ h => h)) (fun _ => ?_)
  refine go ?_
  refine x_n fun bk13 w14 ebk13 sbk13 B15 u16 => ?_
  refine x_s fun w18 sw18 B20 u19 => ?_
  refine go ?_
  refine t_splitp 18 rfl (fun g18 => ?_) (fun g18 => ?_)
  ·
   refine go ?_
   exact hK4 (i + 1) (by omega) (hs := by exact ⟨(congrArg (fun z => some (Value.int .i64 z)) (by rw [take_nth (by omega), tonP_snoc]; split <;> omega)), rfl, rfl, rfl, rfl, trivial⟩)
  refine go ?_
  refine q_p (fun g23 => ?_) fun g23 => ?_
  ·
   refine go ?_
   exact hK4 (i + 1) (by omega) (hs := by exact ⟨(congrArg (fun z => some (Value.int .i64 z)) (by rw [take_nth (by omega), tonP_snoc]; split <;> omega)), rfl, rfl, rfl, rfl, trivial⟩)
  refine go ?_
  exact hK4 (i + 1) (by omega) (hs := by exact ⟨(congrArg (fun z => some (Value.int .i64 z)) (by rw [take_nth (by omega), tonP_snoc]; split <;> omega)), rfl, rfl, rfl, rfl, trivial⟩)
 refine go ?_
 refine f_1 results138 ?_
 exact ⟨by rw [show x.c.take i = x.c from List.take_of_length_le (by omega)], u_d⟩

theorem deleteC_c (l : List Crg) (ao : Option Addr) (gb cap base k : Nat) (w0 : World) (ha : Acc encCrg 2 72 base w0 ao gb cap l) (hk : k < l.length) (hll : l.length ≤ 100000) :
    CallsV Tryz.prog 182 [.slice ao l.length cap, .int .i64 (k : Int), .int .i64 ((k + 1 : Nat) : Int)] w0 (fun v w' => (v = .slice ao (List.length (l.take k ++ l.drop (k + 1))) cap ∧ Acc encCrg 2 72 base w' ao gb cap (l.take k ++ l.drop (k + 1))) ∧ Upd (fun i => i = gb ∧ base ≤ i) w0 w') := by
  obtain ⟨h1, _⟩ := Acc.raw ha (.inr (by omega))
  subst h1
  exact delete0_c l gb cap base k w0 ha hk hll

set_option maxHeartbeats 4000000 in
theorem book0_c (pb po : Nat) (cs : List Value) (t : TypeId) (ao : Option Addr) (gb cp base : Nat) (l : List Crg) (bill tons : Int) (k : Nat) (bb : Bool) (w0 : World) (hP : Blk w0 pb t cs) (hpo : cs[po]? = some (.slice ao l.length cp)) (ha : Acc encCrg 2 72 base w0 ao gb cp l) (hne : base ≤ gb → gb ≠ pb) (hbs : base ≤ w0.heap.size) (hok : CgOk 1000000000000 l) (hb : 1 ≤ bill ∧ bill ≤ 9999) (ht : -1000000 ≤ tons ∧ tons ≤ 1000000) (hkd : posK (fun x : Crg => x.b) bill l = k) (hbb : isK (fun x : Crg => x.b) bill l = bb) :
    CallsV Tryz.prog 139 [.pointer (some ⟨pb, po, none⟩), .int .i64 bill, .int .i64 tons] w0 (fun _ w' => (∃ a9 g9 c9, Blk w' pb t (cs.set po (.slice a9 (bookP bill tons l).length c9)) ∧ Acc encCrg 2 72 base w' a9 g9 c9 (bookP bill tons l) ∧ (g9 = gb ∨ w0.heap.size ≤ g9)) ∧ Upd (fun i => i = pb ∨ (i = gb ∧ base ≤ i)) w0 w') := by
 have hps := posK_spec (fun x : Crg => x.b) bill l
 rw [hkd] at hps
 obtain ⟨hk, -, -⟩ := hps
 have hbi : bb = true ↔ k < l.length ∧ (nth l k).b = bill := by rw [← hbb, isK_iff, hkd]
 have hll := hok.len
 have lt_gb := ha.lt
 have lt_pb := hP.lt
 have hpl : po + 1 ≤ cs.length := by have := (List.getElem?_eq_some_iff.1 hpo).1; omega
 refine f_n func139 ?_
 refine go ?_
 refine t_load isAgg35 rfl rfl rfl (hP.get hpo) ?_
 refine go ?_
 refine x_c func179 rfl rfl (by have h9 := searchC_c l ao gb 0 cp bill _ (ha.sl (fun _ => rfl)) hok.1 (by omega) (fun x hx => by have := (hok.2 x hx).1; omega) (by omega); rw [hkd, hbb] at h9; exact h9) ?_
 rintro _ w3 ⟨rfl, u4⟩ zu4
 refine go ?_
 refine q_b (fun g17 => ?_) fun g17 => ?_
 ·
  have hno : ¬ (k < l.length ∧ (nth l k).b = bill) := fun h => by have h8 := hbi.2 h; simp [h8] at g17
  refine go ?_
  refine t_load isAgg35 rfl rfl rfl ((hP.kx u4).get hpo) ?_
  refine go ?_
  refine x_l fun bk9 w10 ebk9 sbk9 B11 u12 => ?_
  have D14 := ((ha.keep u4 (fun _ h => h)).keep u12 (fun _ h => h))
  have lbv := B11.lt
  refine x_c func181 rfl rfl (insertC_c l ao gb cp base k bk9 ⟨bill, 0⟩ _ D14 hk (by omega) (by omega) B11 (by omega)) ?_
  rintro _ w16 ⟨⟨a1, g1, c1, rfl, hA1, hg1⟩, u17⟩ zu17
  obtain ⟨hn1, hm1⟩ := ins_nth (l := l) hk (⟨bill, 0⟩ : Crg)
  have hs1 := ins_set (l := l) hk (⟨bill, 0⟩ : Crg) ⟨bill, tons⟩
  have hd1 := ins_less (l := l) hk (⟨bill, 0⟩ : Crg)
  obtain ⟨l1, hl1⟩ : ∃ l1, l.take k ++ (⟨bill, 0⟩ : Crg) :: l.drop k = l1 := ⟨_, rfl⟩
  rw [hl1] at hA1 hn1 hm1 hs1 hd1 ⊢
  have hz1 : (nth l1 k).t = 0 := by rw [hn1]
  have hbg1 := hA1.ge (by omega)
  have hne1 : g1 ≠ pb := fun e => by
    rcases hg1 with q | q
    · exact hne (by omega) (by omega)
    · omega
  have lt_g1 := hA1.lt
  refine go ?_
  refine t_store (vs := [.slice a1 l1.length c1]) sizeOf35 rfl rfl rfl (((hP.kx u4).kx u12).keep u17 (by omega)) rfl rfl (by simpa using hpl) (by simp [Value.oneCell']) (fun w20 sw20 (B22 : Blk _ pb t (List.set cs po (.slice a1 l1.length c1))) u21 => ?_)
  have hplx : po + 1 ≤ (List.set cs po (.slice a1 l1.length c1)).length := by rw [List.length_set]; exact hpl
  have hpox : (List.set cs po (.slice a1 l1.length c1))[po]? = some (.slice a1 l1.length c1) := List.getElem?_set_self (by omega)
  refine go ?_
  refine t_load isAgg35 rfl rfl rfl (B22.get hpox) ?_
  refine go ?_
  have D25 := (hA1.keep u21 (fun hb => show ¬ (g1 = pb) by first | omega | assumption))
  refine g_i k (D25.sl (fun _ => rfl)) (fun _ => ?_)
  refine go ?_
  refine g_i k (D25.sl (fun _ => rfl)) (fun _ => ?_)
  refine go ?_
  refine t_storeA (vs := [.int .i64 ((nth l1 k).t + tons)]) (j := k) (o' := 1) (k := 2) (⟨bill, (nth l1 k).t + tons⟩) (fun _ => rfl) sizeOf3 rfl rfl (by omega) rfl D25 (by first | omega | (simp only [List.length_set, eRuns_len]; omega)) rfl rfl (by decide) (by simp [Value.oneCell']) (by rw [hn1]; rfl) (fun w28 R30 u29 => ?_)
  have zu29 := u29.size
  refine go ?_
  refine t_load isAgg35 rfl rfl rfl ((B22.keep u29 (by omega)).get hpox) ?_
  refine go ?_
  have i33 : k < (l1.set k (⟨bill, (nth l1 k).t + tons⟩)).length := (by rw [List.length_set]; omega)
  refine g_i k (R30.sl (fun _ => rfl)) (fun _ => ?_)
  iterate 2 refine st1 ?_
  refine t_same 45 (v := .int .i64 ((nth l1 k).t + tons)) rfl (congrArg (Value.int .i64) (by rw [nth_setE (by omega)])) ?_
  refine go ?_
  refine q_p (fun g46 => ?_) fun g46 => ?_
  ·
   refine go ?_
   refine t_load isAgg35 rfl rfl rfl ((B22.keep u29 (by omega)).get hpox) ?_
   refine go ?_
   refine x_c func182 rfl rfl (by have h9 := deleteC_c (l1.set k (⟨bill, (nth l1 k).t + tons⟩)) a1 g1 c1 base k _ R30 (by rw [List.length_set]; omega) (by rw [List.length_set]; omega); rw [List.length_set] at h9; exact h9) ?_
   rintro _ w35 ⟨⟨rfl, hA2⟩, u36⟩ zu36
   have lt_g1 := hA2.lt
   refine go ?_
   refine t_store (vs := [.slice a1 (List.length ((l1.set k (⟨bill, (nth l1 k).t + tons⟩)).take k ++ (l1.set k (⟨bill, (nth l1 k).t + tons⟩)).drop (k + 1))) c1]) sizeOf35 rfl rfl rfl ((B22.keep u29 (by omega)).keep u36 (by omega)) rfl rfl (by simpa using hplx) (by simp [Value.oneCell']) (fun w39 sw39 (B41 : Blk _ pb t (List.set (List.set cs po (.slice a1 l1.length c1)) po (.slice a1 (List.length ((l1.set k (⟨bill, (nth l1 k).t + tons⟩)).take k ++ (l1.set k (⟨bill, (nth l1 k).t + tons⟩)).drop (k + 1))) c1))) u40 => ?_)
   rw [List.set_set] at B41
   have hplxx : po + 1 ≤ (List.set cs po (.slice a1 (List.length ((l1.set k (⟨bill, (nth l1 k).t + tons⟩)).take k ++ (l1.set k (⟨bill, (nth l1 k).t + tons⟩)).drop (k + 1))) c1)).length := by rw [List.length_set]; exact hpl
   have hpoxx : (List.set cs po (.slice a1 (List.length ((l1.set k (⟨bill, (nth l1 k).t + tons⟩)).take k ++ (l1.set k (⟨bill, (nth l1 k).t + tons⟩)).drop (k + 1))) c1))[po]? = some (.slice a1 (List.length ((l1.set k (⟨bill, (nth l1 k).t + tons⟩)).take k ++ (l1.set k (⟨bill, (nth l1 k).t + tons⟩)).drop (k + 1))) c1) := List.getElem?_set_self (by omega)
   refine go ?_
   refine f_ret0 results139 ?_
   have D43 := (hA2.keep u40 (fun hb => show ¬ (g1 = pb) by first | omega | assumption))
   have he : bookP bill tons l = ((l1.set k (⟨bill, (nth l1 k).t + tons⟩)).take k ++ (l1.set k (⟨bill, (nth l1 k).t + tons⟩)).drop (k + 1)) := by
     rw [bookP_no (by rw [hkd]; exact hno)]
     rw [if_pos (by omega), set_less, hd1]
   rw [he]
   exact ⟨⟨a1, g1, c1, B41, D43, (by omega)⟩, u_d⟩
  refine go ?_
  refine f_ret0 results139 ?_
  have he : bookP bill tons l = (l1.set k (⟨bill, (nth l1 k).t + tons⟩)) := by
    rw [bookP_no (by rw [hkd]; exact hno)]
    rw [if_neg (by omega), hkd, ← hs1, hz1, Int.zero_add]
  rw [he]
  exact ⟨⟨a1, g1, c1, by rw [List.length_set]; exact (B22.keep u29 (by omega)), R30, (by omega)⟩, u_d⟩
 have his := hbi.1 (by simpa using g17)
 have hx1 := (hok.2 _ (nth_mem his.1)).2
 have hbg0 := ha.ge (by omega)
 have hne1 : gb ≠ pb := hne hbg0
 refine go ?_
 refine t_load isAgg35 rfl rfl rfl ((hP.kx u4).get hpo) ?_
 refine go ?_
 have D45 := (ha.keep u4 (fun _ h => h))
 refine g_i k (D45.sl (fun _ => rfl)) (fun _ => ?_)
 refine go ?_
 refine g_i k (D45.sl (fun _ => rfl)) (fun _ => ?_)
 refine go ?_
 refine t_storeA (vs := [.int .i64 ((nth l k).t + tons)]) (j := k) (o' := 1) (k := 2) (⟨bill, (nth l k).t + tons⟩) (fun _ => rfl) sizeOf3 rfl rfl (by omega) rfl D45 (by first | omega | (simp only [List.length_set, eRuns_len]; omega)) rfl rfl (by decide) (by simp [Value.oneCell']) (by rw [← his.2]; rfl) (fun w48 R50 u49 => ?_)
 have zu49 := u49.size
 refine go ?_
 refine t_load isAgg35 rfl rfl rfl (((hP.kx u4).keep u49 (by omega)).get hpo) ?_
 refine go ?_
 have i53 : k < (l.set k (⟨bill, (nth l k).t + tons⟩)).length := (by rw [List.length_set]; omega)
 refine g_i k (R50.sl (fun _ => rfl)) (fun _ => ?_)
 iterate 2 refine st1 ?_
 refine t_same 45 (v := .int .i64 ((nth l k).t + tons)) rfl (congrArg (Value.int .i64) (by rw [nth_setE (by omega)])) ?_
 refine go ?_
 refine q_p (fun g46 => ?_) fun g46 => ?_
 ·
  refine go ?_
  refine t_load isAgg35 rfl rfl rfl (((hP.kx u4).keep u49 (by omega)).get hpo) ?_
  refine go ?_
  refine x_c func182 rfl rfl (by have h9 := deleteC_c (l.set k (⟨bill, (nth l k).t + tons⟩)) ao gb cp base k _ R50 (by rw [List.length_set]; omega) (by rw [List.length_set]; omega); rw [List.length_set] at h9; exact h9) ?_
  rintro _ w55 ⟨⟨rfl, hA2⟩, u56⟩ zu56
  have lt_gb := hA2.lt
  refine go ?_
  refine t_store (vs := [.slice ao (List.length ((l.set k (⟨bill, (nth l k).t + tons⟩)).take k ++ (l.set k (⟨bill, (nth l k).t + tons⟩)).drop (k + 1))) cp]) sizeOf35 rfl rfl rfl (((hP.kx u4).keep u49 (by omega)).keep u56 (by omega)) rfl rfl (by simpa using hpl) (by simp [Value.oneCell']) (fun w59 sw59 (B61 : Blk _ pb t (List.set cs po (.slice ao (List.length ((l.set k (⟨bill, (nth l k).t + tons⟩)).take k ++ (l.set k (⟨bill, (nth l k).t + tons⟩)).drop (k + 1))) cp))) u60 => ?_)
  have hplx : po + 1 ≤ (List.set cs po (.slice ao (List.length ((l.set k (⟨bill, (nth l k).t + tons⟩)).take k ++ (l.set k (⟨bill, (nth l k).t + tons⟩)).drop (k + 1))) cp)).length := by rw [List.length_set]; exact hpl
  have hpox : (List.set cs po (.slice ao (List.length ((l.set k (⟨bill, (nth l k).t + tons⟩)).take k ++ (l.set k (⟨bill, (nth l k).t + tons⟩)).drop (k + 1))) cp))[po]? = some (.slice ao (List.length ((l.set k (⟨bill, (nth l k).t + tons⟩)).take k ++ (l.set k (⟨bill, (nth l k).t + tons⟩)).drop (k + 1))) cp) := List.getElem?_set_self (by omega)
  refine go ?_
  refine f_ret0 results139 ?_
  have D63 := (hA2.keep u60 (fun hb => show ¬ (gb = pb) by first | omega | assumption))
  have he : bookP bill tons l = ((l.set k (⟨bill, (nth l k).t + tons⟩)).take k ++ (l.set k (⟨bill, (nth l k).t + tons⟩)).drop (k + 1)) := by
    rw [bookP_is (by rw [hkd]; exact his.1) (by rw [hkd]; exact his.2)]
    rw [hkd, if_pos (by omega)]; rw [set_less]
  rw [he]
  exact ⟨⟨ao, gb, cp, B61, D63, (by omega)⟩, u_d⟩
 refine go ?_
 refine f_ret0 results139 ?_
 have he : bookP bill tons l = (l.set k (⟨bill, (nth l k).t + tons⟩)) := by
   rw [bookP_is (by rw [hkd]; exact his.1) (by rw [hkd]; exact his.2)]
   rw [hkd, if_neg (by omega)]
 rw [he]
 exact ⟨⟨ao, gb, cp, by rw [List.length_set, set_same hpo]; exact ((hP.kx u4).keep u49 (by omega)), R50, (by omega)⟩, u_d⟩

theorem book_c (pb po : Nat) (cs : List Value) (t : TypeId) (ao : Option Addr) (gb cp base : Nat) (l : List Crg) (bill tons : Int) (w0 : World) (hP : Blk w0 pb t cs) (hpo : cs[po]? = some (.slice ao l.length cp)) (ha : Acc encCrg 2 72 base w0 ao gb cp l) (hne : base ≤ gb → gb ≠ pb) (hbs : base ≤ w0.heap.size) (hok : CgOk 1000000000000 l) (hb : 1 ≤ bill ∧ bill ≤ 9999) (ht : -1000000 ≤ tons ∧ tons ≤ 1000000) :
    CallsV Tryz.prog 139 [.pointer (some ⟨pb, po, none⟩), .int .i64 bill, .int .i64 tons] w0 (fun _ w' => (∃ a9 g9 c9, Blk w' pb t (cs.set po (.slice a9 (bookP bill tons l).length c9)) ∧ Acc encCrg 2 72 base w' a9 g9 c9 (bookP bill tons l) ∧ (g9 = gb ∨ w0.heap.size ≤ g9)) ∧ Upd (fun i => i = pb ∨ (i = gb ∧ base ≤ i)) w0 w') :=
  book0_c pb po cs t ao gb cp base l bill tons _ _ w0 hP hpo ha hne hbs hok hb ht rfl rfl

end Go.Proofs.YtagmkfbbhfaceaaGreatDoor
