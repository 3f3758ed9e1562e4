/-
  The contract of known. Conditions: none.
-/
import Derived.Test.YtmicjleiheoieaaA12
namespace Go.Proofs.Ytmicjleiheoieaa
open Go Go.RowKit

theorem own16 : Own Try.prog 16 := ⟨Try.f16, Try.func16, by kernel_rfl, by kernel_rfl⟩
theorem own18 : Own Try.prog 18 := ⟨Try.f18, Try.func18, by kernel_rfl, by kernel_rfl⟩
theorem own36 : Own Try.prog 36 := ⟨Try.f36, Try.func36, by kernel_rfl, by kernel_rfl⟩

theorem eqIn45 (n : Nat) (a0 : Int) (a1 : Int) (b0 : Int) (b1 : Int) (w : World) : (Op.equalIn (n + 2) 45 (.agg #[.int .i64 a0, .int .i64 a1]) (.agg #[.int .i64 b0, .int .i64 b1])).run Try.prog w = .ok (decide (a0 = b0) && decide (a1 = b1)) w := by
  have hS : Try.prog.underlying 45 = some (.struct (Try.prog.fieldsOf 45)) := by kernel_rfl
  have hp : Try.prog.stoodInHeld 45 = false := by kernel_rfl
  have p0 : ∀ (a0 : Int) (a1 : Int), (part 3 #[.int .i64 a0, .int .i64 a1] 0).run Try.prog w = .ok (.int .i64 a0) w := fun _ _ => by simp [part, Try.isAgg3]
  have p1 : ∀ (a0 : Int) (a1 : Int), (part 3 #[.int .i64 a0, .int .i64 a1] 1).run Try.prog w = .ok (.int .i64 a1) w := fun _ _ => by simp [part, Try.isAgg3]
  have e3 := fun a b w => equal_i64 Try.underlying3 (n + 0) a b w
  rw [run_equalIn_struct w (n + 1) 45 _ _ hS hp]
  simp only [Program.fieldsOf, Try.underlying45]
  simp only [Op.eqFields, Sem.run_bind, Sem.run_ite, p0, p1, e3, Result.andThen_ok]
  by_cases h0 : a0 = b0 <;> by_cases h1 : a1 = b1 <;> simp [h0, h1, p0, p1, e3]

theorem exact_c (n : Int) (w0 : World) :
    CallsV Try.prog 36 [.int .i64 n] w0 (fun v w' => v = .agg #[.int .i64 n, .int .i64 n] ∧ Ext w0 w') := by
 have E0 := Upd.refl (fun _ => False) w0
 refine f_enter (N := 6) Try.func36 rfl rfl rfl ?_
 change WC _ _ _ _ _ _ [(0, .int .i64 n)] _
 refine c_seq fun K1 hK1 => (c_region (t_alloc (cs := [.int .i64 0, .int .i64 0]) Try.zeroValue45 rfl rfl rfl (fun bk2 w3 ebk2 sbk2 B4 u5 => ?_)))
 have zu5 := u5.size
 have E6 := E0.next u5 (fun _ _ h => h.elim)
 refine t_nil' (hK1 _ _ (c_seq fun K7 hK7 => (c_region (t_move rfl rfl rfl (t_move rfl rfl rfl (t_build (ps := [(0, .int .i64 n), (1, .int .i64 n)]) (v := .agg #[.int .i64 n, .int .i64 n]) rfl rfl ⟨rfl, rfl⟩ (fun w => by kernel_rfl) (t_store (vs := [.int .i64 n, .int .i64 n]) Try.sizeOf45 rfl rfl rfl B4 rfl rfl (Nat.le_of_ble_eq_true rfl) (by simp [Value.oneCell']) (fun w8 sw8 B10 u9 => ?_))))))))
 have zu9 := u9.size
 have E11 := E6.next u9 (fun i hi (h : i = bk2) => show False by first | omega | assumption)
 have B10 : Blk w8 bk2 45 [.int .i64 n, .int .i64 n] := B10
 refine t_nil' (hK7 _ _ (c_ret (f_ret1 (v := .agg #[.int .i64 n, .int .i64 n]) Try.results36 ⟨_, _, rfl, run_loadVarN (vs := [.int .i64 n, .int .i64 n]) Try.isAgg45 Try.sizeOf45 rfl (B10.at.sub 0 2)⟩ ?_)))
 exact ⟨rfl, E11⟩

theorem known_c  (w0 : World) :
    CallsV Try.prog 16 [] w0 (fun v w' => v = .bool true ∧ Ext w0 w') := by
 have E0 := Upd.refl (fun _ => False) w0
 refine f_enter (N := 129) Try.func16 rfl rfl rfl ?_
 change WC _ _ _ _ _ _ [] _
 refine c_seq fun K1 hK1 => (c_region (t_assign rfl rfl rfl (t_nil' (hK1 _ _ (c_seq fun K2 hK2 => (c_region (t_build (ps := [(1, .int .i64 10)]) (v := .agg #[.int .i64 0, .int .i64 10]) rfl rfl ⟨rfl, rfl⟩ (fun w => by kernel_rfl) (t_build (ps := [(0, .int .i64 50), (1, .int .i64 100)]) (v := .agg #[.int .i64 50, .int .i64 100]) rfl rfl ⟨rfl, rfl⟩ (fun w => by kernel_rfl) (t_build (ps := [(1, .int .i64 100), (2, .agg #[.int .i64 50, .int .i64 100])]) (v := .agg #[.int .i64 0, .int .i64 100, .int .i64 50, .int .i64 100, .int .i64 0, .int .i64 0]) rfl rfl ⟨rfl, rfl⟩ (fun w => by kernel_rfl) (t_bslice (ps := [(0, .agg #[.int .i64 0, .int .i64 100, .int .i64 50, .int .i64 100, .int .i64 0, .int .i64 0])]) (cs := [.int .i64 0, .int .i64 100, .int .i64 50, .int .i64 100, .int .i64 0, .int .i64 0]) (e := 59) rfl rfl ⟨rfl, rfl⟩ (fun w => by kernel_rfl) (fun bk3 w4 ebk3 sbk3 B5 u6 => ?_)))))))))))
 have zu6 := u6.size
 have E7 := E0.next u6 (fun _ _ h => h.elim)
 refine t_build (ps := [(0, .agg #[.int .i64 0, .int .i64 10]), (1, .slice (some ⟨bk3, 0, none⟩) 1 1), (2, .int .i64 200), (3, .int .i64 22)]) (v := .agg #[.int .i64 0, .int .i64 10, .slice (some ⟨bk3, 0, none⟩) 1 1, .int .i64 200, .int .i64 22]) rfl rfl ⟨rfl, rfl⟩ (fun w => by kernel_rfl) (t_alloc (cs := [.int .i64 0, .int .i64 0, .slice none 0 0, .int .i64 0, .int .i64 0]) Try.zeroValue48 rfl rfl rfl (fun bk8 w9 ebk8 sbk8 B10 u11 => ?_))
 have zu11 := u11.size
 have E12 := E7.next u11 (fun _ _ h => h.elim)
 refine t_store (vs := [.int .i64 0, .int .i64 10, .slice (some ⟨bk3, 0, none⟩) 1 1, .int .i64 200, .int .i64 22]) Try.sizeOf48 rfl rfl rfl B10 rfl rfl (Nat.le_of_ble_eq_true rfl) (by simp [Value.oneCell']) (fun w13 sw13 B15 u14 => ?_)
 have zu14 := u14.size
 have E16 := E12.next u14 (fun i hi (h : i = bk8) => show False by first | omega | assumption)
 have B15 : Blk w13 bk8 48 [.int .i64 0, .int .i64 10, .slice (some ⟨bk3, 0, none⟩) 1 1, .int .i64 200, .int .i64 22] := B15
 refine t_nil' (hK2 _ _ (c_seq fun K17 hK17 => (c_region (t_call (vs := [.int .i64 20]) own36 rfl rfl rfl rfl (exact_c 20 _) (fun v18 w19 r21 => ?_)))))
 obtain ⟨rfl, u20⟩ := r21
 have zu20 := u20.size
 have E22 := E16.next u20 (fun _ _ h => h.elim)
 refine t_call (vs := [.int .i64 100]) own36 rfl rfl rfl rfl (exact_c 100 _) (fun v23 w24 r26 => ?_)
 obtain ⟨rfl, u25⟩ := r26
 have zu25 := u25.size
 have E27 := E22.next u25 (fun _ _ h => h.elim)
 refine t_build (ps := [(0, .int .i64 100), (2, .agg #[.int .i64 100, .int .i64 100])]) (v := .agg #[.int .i64 100, .int .i64 0, .int .i64 100, .int .i64 100, .int .i64 0, .int .i64 0]) rfl rfl ⟨rfl, rfl⟩ (fun w => by kernel_rfl) (t_bslice (ps := [(0, .agg #[.int .i64 100, .int .i64 0, .int .i64 100, .int .i64 100, .int .i64 0, .int .i64 0])]) (cs := [.int .i64 100, .int .i64 0, .int .i64 100, .int .i64 100, .int .i64 0, .int .i64 0]) (e := 59) rfl rfl ⟨rfl, rfl⟩ (fun w => by kernel_rfl) (fun bk28 w29 ebk28 sbk28 B30 u31 => ?_))
 have zu31 := u31.size
 have E32 := E27.next u31 (fun _ _ h => h.elim)
 refine t_build (ps := [(0, .agg #[.int .i64 20, .int .i64 20]), (1, .slice (some ⟨bk28, 0, none⟩) 1 1), (2, .int .i64 100), (3, .int .i64 11)]) (v := .agg #[.int .i64 20, .int .i64 20, .slice (some ⟨bk28, 0, none⟩) 1 1, .int .i64 100, .int .i64 11]) rfl rfl ⟨rfl, rfl⟩ (fun w => by kernel_rfl) (t_alloc (cs := [.int .i64 0, .int .i64 0, .slice none 0 0, .int .i64 0, .int .i64 0]) Try.zeroValue48 rfl rfl rfl (fun bk33 w34 ebk33 sbk33 B35 u36 => ?_))
 have zu36 := u36.size
 have E37 := E32.next u36 (fun _ _ h => h.elim)
 refine t_store (vs := [.int .i64 20, .int .i64 20, .slice (some ⟨bk28, 0, none⟩) 1 1, .int .i64 100, .int .i64 11]) Try.sizeOf48 rfl rfl rfl B35 rfl rfl (Nat.le_of_ble_eq_true rfl) (by simp [Value.oneCell']) (fun w38 sw38 B40 u39 => ?_)
 have zu39 := u39.size
 have E41 := E37.next u39 (fun i hi (h : i = bk33) => show False by first | omega | assumption)
 have B40 : Blk w38 bk33 48 [.int .i64 20, .int .i64 20, .slice (some ⟨bk28, 0, none⟩) 1 1, .int .i64 100, .int .i64 11] := B40
 refine t_nil' (hK17 _ _ (c_seq fun K42 hK42 => (c_region (t_build (ps := [(0, .int .i64 40), (1, .int .i64 50), (2, .int .i64 30), (3, .bool true)]) (v := .agg #[.int .i64 40, .int .i64 50, .int .i64 30, .bool true]) rfl rfl ⟨rfl, rfl⟩ (fun w => by kernel_rfl) (t_alloc (cs := [.int .i64 0, .int .i64 0, .int .i64 0, .bool false]) Try.zeroValue72 rfl rfl rfl (fun bk43 w44 ebk43 sbk43 B45 u46 => ?_))))))
 have zu46 := u46.size
 have E47 := E41.next u46 (fun _ _ h => h.elim)
 refine t_store (vs := [.int .i64 40, .int .i64 50, .int .i64 30, .bool true]) Try.sizeOf72 rfl rfl rfl B45 rfl rfl (Nat.le_of_ble_eq_true rfl) (by simp [Value.oneCell']) (fun w48 sw48 B50 u49 => ?_)
 have zu49 := u49.size
 have E51 := E47.next u49 (fun i hi (h : i = bk43) => show False by first | omega | assumption)
 have B50 : Blk w48 bk43 72 [.int .i64 40, .int .i64 50, .int .i64 30, .bool true] := B50
 refine t_nil' (hK42 _ _ (c_seq fun K52 hK52 => (c_region ?_)))
 have B53 := (((((((B15.keep u20 (fun h => h)).keep u25 (fun h => h)).keep u31 (fun h => h)).keep u36 (fun h => h)).keep u39 (show ¬ (bk8 = bk33) by first | omega | assumption)).keep u46 (fun h => h)).keep u49 (show ¬ (bk8 = bk43) by first | omega | assumption))
 refine t_loadN (vs := [.int .i64 0, .int .i64 10, .slice (some ⟨bk3, 0, none⟩) 1 1, .int .i64 200, .int .i64 22]) Try.isAgg48 Try.sizeOf48 rfl rfl rfl (B53.at.sub 0 5) rfl (t_loadN (vs := [.int .i64 40, .int .i64 50, .int .i64 30, .bool true]) Try.isAgg72 Try.sizeOf72 rfl rfl rfl (B50.at.sub 0 4) rfl ?_)
 have B54 := (((((((((B5.keep u11 (fun h => h)).keep u14 (show ¬ (bk3 = bk8) by first | omega | assumption)).keep u20 (fun h => h)).keep u25 (fun h => h)).keep u31 (fun h => h)).keep u36 (fun h => h)).keep u39 (show ¬ (bk3 = bk33) by first | omega | assumption)).keep u46 (fun h => h)).keep u49 (show ¬ (bk3 = bk43) by first | omega | assumption))
 refine t_call (vs := [.agg #[.int .i64 0, .int .i64 10, .slice (some ⟨bk3, 0, none⟩) 1 1, .int .i64 200, .int .i64 22], .agg #[.int .i64 40, .int .i64 50, .int .i64 30, .bool true]]) own40 rfl rfl rfl rfl (kn_through bk3 _ B54) (fun v55 w56 r58 => ?_)
 obtain ⟨rfl, u57⟩ := r58
 have zu57 := u57.size
 have E59 := E51.next u57 (fun _ _ h => h.elim)
 refine t_move rfl rfl rfl (t_extract (vs := [.agg #[.int .i64 24, .int .i64 58], .agg #[.int .i64 32, .int .i64 73], .bool true, .int .i64 0]) rfl rfl rfl rfl (t_extract (vs := [.agg #[.int .i64 24, .int .i64 58], .agg #[.int .i64 32, .int .i64 73], .bool true, .int .i64 0]) rfl rfl rfl rfl (t_extract (vs := [.agg #[.int .i64 24, .int .i64 58], .agg #[.int .i64 32, .int .i64 73], .bool true, .int .i64 0]) rfl rfl rfl rfl (t_extract (vs := [.agg #[.int .i64 24, .int .i64 58], .agg #[.int .i64 32, .int .i64 73], .bool true, .int .i64 0]) rfl rfl rfl rfl (t_alloc (cs := [.int .i64 0, .int .i64 0]) Try.zeroValue45 rfl rfl rfl (fun bk60 w61 ebk60 sbk60 B62 u63 => ?_))))))
 have zu63 := u63.size
 have E64 := E59.next u63 (fun _ _ h => h.elim)
 refine t_alloc (cs := [.int .i64 0, .int .i64 0]) Try.zeroValue45 rfl rfl rfl (fun bk65 w66 ebk65 sbk65 B67 u68 => ?_)
 have zu68 := u68.size
 have E69 := E64.next u68 (fun _ _ h => h.elim)
 have B70 := (B62.keep u68 (fun h => h))
 refine t_store (vs := [.int .i64 24, .int .i64 58]) Try.sizeOf45 rfl rfl rfl B70 rfl rfl (Nat.le_of_ble_eq_true rfl) (by simp [Value.oneCell']) (fun w71 sw71 B73 u72 => ?_)
 have zu72 := u72.size
 have E74 := E69.next u72 (fun i hi (h : i = bk60) => show False by first | omega | assumption)
 have B73 : Blk w71 bk60 45 [.int .i64 24, .int .i64 58] := B73
 have B75 := (B67.keep u72 (show ¬ (bk65 = bk60) by first | omega | assumption))
 refine t_store (vs := [.int .i64 32, .int .i64 73]) Try.sizeOf45 rfl rfl rfl B75 rfl rfl (Nat.le_of_ble_eq_true rfl) (by simp [Value.oneCell']) (fun w76 sw76 B78 u77 => ?_)
 have zu77 := u77.size
 have E79 := E74.next u77 (fun i hi (h : i = bk65) => show False by first | omega | assumption)
 have B78 : Blk w76 bk65 45 [.int .i64 32, .int .i64 73] := B78
 refine t_assign rfl rfl rfl (t_assign rfl rfl rfl (t_nil' (hK52 _ _ (c_seq fun K80 hK80 => (c_region (t_build (ps := [(0, .int .i64 100), (1, .int .i64 125)]) (v := .agg #[.int .i64 100, .int .i64 125]) rfl rfl ⟨rfl, rfl⟩ (fun w => by kernel_rfl) (t_call (vs := [.int .i64 7700, .int .i64 2000, .agg #[.int .i64 100, .int .i64 125], .int .i64 90]) own46 rfl rfl rfl rfl (kn_stop _) (fun v81 w82 r84 => ?_))))))))
 obtain ⟨rfl, u83⟩ := r84
 have zu83 := u83.size
 have E85 := E79.next u83 (fun _ _ h => h.elim)
 refine t_move rfl rfl rfl (t_extract (vs := [.agg #[.int .i64 246, .int .i64 271], .int .i64 0]) rfl rfl rfl rfl (t_extract (vs := [.agg #[.int .i64 246, .int .i64 271], .int .i64 0]) rfl rfl rfl rfl (t_alloc (cs := [.int .i64 0, .int .i64 0]) Try.zeroValue45 rfl rfl rfl (fun bk86 w87 ebk86 sbk86 B88 u89 => ?_))))
 have zu89 := u89.size
 have E90 := E85.next u89 (fun _ _ h => h.elim)
 refine t_store (vs := [.int .i64 246, .int .i64 271]) Try.sizeOf45 rfl rfl rfl B88 rfl rfl (Nat.le_of_ble_eq_true rfl) (by simp [Value.oneCell']) (fun w91 sw91 B93 u92 => ?_)
 have zu92 := u92.size
 have E94 := E90.next u92 (fun i hi (h : i = bk86) => show False by first | omega | assumption)
 have B93 : Blk w91 bk86 45 [.int .i64 246, .int .i64 271] := B93
 refine t_assign rfl rfl rfl (t_nil' (hK80 _ _ (c_seq fun K95 hK95 => (c_region (t_build (ps := [(0, .int .i64 30), (1, .int .i64 10), (2, .int .i64 200)]) (v := .agg #[.int .i64 30, .int .i64 10, .int .i64 200]) rfl rfl ⟨rfl, rfl⟩ (fun w => by kernel_rfl) (t_build (ps := [(0, .int .i64 80), (1, .int .i64 11)]) (v := .agg #[.int .i64 80, .int .i64 11, .int .i64 0]) rfl rfl ⟨rfl, rfl⟩ (fun w => by kernel_rfl) (t_build (ps := [(0, .int .i64 90), (1, .int .i64 11)]) (v := .agg #[.int .i64 90, .int .i64 11, .int .i64 0]) rfl rfl ⟨rfl, rfl⟩ (fun w => by kernel_rfl) (t_build (ps := [(0, .int .i64 80), (1, .int .i64 11)]) (v := .agg #[.int .i64 80, .int .i64 11, .int .i64 0]) rfl rfl ⟨rfl, rfl⟩ (fun w => by kernel_rfl) (t_build (ps := [(0, .int .i64 80), (1, .int .i64 11)]) (v := .agg #[.int .i64 80, .int .i64 11, .int .i64 0]) rfl rfl ⟨rfl, rfl⟩ (fun w => by kernel_rfl) (t_bslice (ps := [(0, .agg #[.int .i64 80, .int .i64 11, .int .i64 0]), (1, .agg #[.int .i64 90, .int .i64 11, .int .i64 0]), (2, .agg #[.int .i64 80, .int .i64 11, .int .i64 0]), (3, .agg #[.int .i64 80, .int .i64 11, .int .i64 0])]) (cs := [.int .i64 80, .int .i64 11, .int .i64 0, .int .i64 90, .int .i64 11, .int .i64 0, .int .i64 80, .int .i64 11, .int .i64 0, .int .i64 80, .int .i64 11, .int .i64 0]) (e := 23) rfl rfl ⟨rfl, rfl⟩ (fun w => by kernel_rfl) (fun bk96 w97 ebk96 sbk96 B98 u99 => ?_)))))))))))
 have zu99 := u99.size
 have E100 := E94.next u99 (fun _ _ h => h.elim)
 refine t_call (vs := [.agg #[.int .i64 30, .int .i64 10, .int .i64 200], .slice (some ⟨bk96, 0, none⟩) 4 4, .int .i64 23]) own18 rfl rfl rfl rfl (kn_stack bk96 _ B98) (fun v101 w102 r104 => ?_)
 obtain ⟨⟨aoS, gS, cpS, rfl, hrows⟩, u103⟩ := r104
 have zu103 := u103.size
 have E105 := E100.next u103 (fun _ _ h => h.elim)
 refine t_move rfl rfl rfl (t_extract (vs := [.slice aoS 2 cpS, .int .i64 200, .int .i64 0]) rfl rfl rfl rfl (t_extract (vs := [.slice aoS 2 cpS, .int .i64 200, .int .i64 0]) rfl rfl rfl rfl (t_extract (vs := [.slice aoS 2 cpS, .int .i64 200, .int .i64 0]) rfl rfl rfl rfl (t_assign rfl rfl rfl (t_assign rfl rfl rfl (t_assign rfl rfl rfl (t_nil' (hK95 _ _ (c_seq fun K106 hK106 => (c_region ?_))))))))))
 have B107 := ((((((((((B53.keep u57 (fun h => h)).keep u63 (fun h => h)).keep u68 (fun h => h)).keep u72 (show ¬ (bk8 = bk60) by first | omega | assumption)).keep u77 (show ¬ (bk8 = bk65) by first | omega | assumption)).keep u83 (fun h => h)).keep u89 (fun h => h)).keep u92 (show ¬ (bk8 = bk86) by first | omega | assumption)).keep u99 (fun h => h)).keep u103 (fun h => h))
 refine t_loadN (vs := [.int .i64 0, .int .i64 10, .slice (some ⟨bk3, 0, none⟩) 1 1, .int .i64 200, .int .i64 22]) Try.isAgg48 Try.sizeOf48 rfl rfl rfl (B107.at.sub 0 5) rfl ?_
 have B108 := ((((((((((((B40.keep u46 (fun h => h)).keep u49 (show ¬ (bk33 = bk43) by first | omega | assumption)).keep u57 (fun h => h)).keep u63 (fun h => h)).keep u68 (fun h => h)).keep u72 (show ¬ (bk33 = bk60) by first | omega | assumption)).keep u77 (show ¬ (bk33 = bk65) by first | omega | assumption)).keep u83 (fun h => h)).keep u89 (fun h => h)).keep u92 (show ¬ (bk33 = bk86) by first | omega | assumption)).keep u99 (fun h => h)).keep u103 (fun h => h))
 refine t_loadN (vs := [.int .i64 20, .int .i64 20, .slice (some ⟨bk28, 0, none⟩) 1 1, .int .i64 100, .int .i64 11]) Try.isAgg48 Try.sizeOf48 rfl rfl rfl (B108.at.sub 0 5) rfl (t_bslice (ps := [(0, .agg #[.int .i64 0, .int .i64 10, .slice (some ⟨bk3, 0, none⟩) 1 1, .int .i64 200, .int .i64 22]), (1, .agg #[.int .i64 20, .int .i64 20, .slice (some ⟨bk28, 0, none⟩) 1 1, .int .i64 100, .int .i64 11])]) (cs := [.int .i64 0, .int .i64 10, .slice (some ⟨bk3, 0, none⟩) 1 1, .int .i64 200, .int .i64 22, .int .i64 20, .int .i64 20, .slice (some ⟨bk28, 0, none⟩) 1 1, .int .i64 100, .int .i64 11]) (e := 48) rfl rfl ⟨rfl, rfl⟩ (fun w => by kernel_rfl) (fun bk109 w110 ebk109 sbk109 B111 u112 => ?_))
 have zu112 := u112.size
 have E113 := E105.next u112 (fun _ _ h => h.elim)
 have B114 := (((((((((((B50.keep u57 (fun h => h)).keep u63 (fun h => h)).keep u68 (fun h => h)).keep u72 (show ¬ (bk43 = bk60) by first | omega | assumption)).keep u77 (show ¬ (bk43 = bk65) by first | omega | assumption)).keep u83 (fun h => h)).keep u89 (fun h => h)).keep u92 (show ¬ (bk43 = bk86) by first | omega | assumption)).keep u99 (fun h => h)).keep u103 (fun h => h)).keep u112 (fun h => h))
 refine t_loadN (vs := [.int .i64 40, .int .i64 50, .int .i64 30, .bool true]) Try.isAgg72 Try.sizeOf72 rfl rfl rfl (B114.at.sub 0 4) rfl (t_bslice (ps := [(0, .agg #[.int .i64 40, .int .i64 50, .int .i64 30, .bool true])]) (cs := [.int .i64 40, .int .i64 50, .int .i64 30, .bool true]) (e := 72) rfl rfl ⟨rfl, rfl⟩ (fun w => by kernel_rfl) (fun bk115 w116 ebk115 sbk115 B117 u118 => ?_))
 have zu118 := u118.size
 have E119 := E113.next u118 (fun _ _ h => h.elim)
 have B120 := ((((((((((((B54.keep u57 (fun h => h)).keep u63 (fun h => h)).keep u68 (fun h => h)).keep u72 (show ¬ (bk3 = bk60) by first | omega | assumption)).keep u77 (show ¬ (bk3 = bk65) by first | omega | assumption)).keep u83 (fun h => h)).keep u89 (fun h => h)).keep u92 (show ¬ (bk3 = bk86) by first | omega | assumption)).keep u99 (fun h => h)).keep u103 (fun h => h)).keep u112 (fun h => h)).keep u118 (fun h => h))
 have B121 := ((((((((((((((((B30.keep u36 (fun h => h)).keep u39 (show ¬ (bk28 = bk33) by first | omega | assumption)).keep u46 (fun h => h)).keep u49 (show ¬ (bk28 = bk43) by first | omega | assumption)).keep u57 (fun h => h)).keep u63 (fun h => h)).keep u68 (fun h => h)).keep u72 (show ¬ (bk28 = bk60) by first | omega | assumption)).keep u77 (show ¬ (bk28 = bk65) by first | omega | assumption)).keep u83 (fun h => h)).keep u89 (fun h => h)).keep u92 (show ¬ (bk28 = bk86) by first | omega | assumption)).keep u99 (fun h => h)).keep u103 (fun h => h)).keep u112 (fun h => h)).keep u118 (fun h => h))
 have B122 := (B111.keep u118 (fun h => h))
 refine t_call (vs := [.slice (some ⟨bk109, 0, none⟩) 2 2, .slice (some ⟨bk115, 0, none⟩) 1 1, .int .i64 60]) own23 rfl rfl rfl rfl (kn_holds bk3 bk28 bk109 bk115 _ B120 B121 B122 B117) (fun v123 w124 r126 => ?_)
 obtain ⟨⟨bH, rfl, hH⟩, u125⟩ := r126
 have zu125 := u125.size
 have E127 := E119.next u125 (fun _ _ h => h.elim)
 refine t_move rfl rfl rfl (t_extract (vs := [.slice (some ⟨bH, 0, none⟩) 2 2, .int .i64 0, .int .i64 0]) rfl rfl rfl rfl (t_extract (vs := [.slice (some ⟨bH, 0, none⟩) 2 2, .int .i64 0, .int .i64 0]) rfl rfl rfl rfl (t_extract (vs := [.slice (some ⟨bH, 0, none⟩) 2 2, .int .i64 0, .int .i64 0]) rfl rfl rfl rfl (t_assign rfl rfl rfl (t_assign rfl rfl rfl (t_assign rfl rfl rfl (t_nil' (hK106 _ _ (c_seq fun K128 hK128 => (c_seq fun K129 hK129 => (c_region (t_move rfl rfl rfl (t_cmp rfl rfl rfl rfl rfl (t_samehd (v := .bool false) rfl (t_move rfl rfl rfl (t_move rfl rfl rfl (t_cmp rfl rfl rfl rfl rfl (t_samehd (v := .bool false) rfl (t_pick_f rfl rfl rfl rfl (t_move rfl rfl rfl (t_move rfl rfl rfl (t_cmp rfl rfl rfl rfl rfl (t_samehd (v := .bool false) rfl ?_)))))))))))))))))))))))
 refine t_pick_f rfl rfl rfl rfl (t_move rfl rfl rfl (t_move rfl rfl rfl (t_cmp rfl rfl rfl rfl rfl (t_samehd (v := .bool false) rfl (t_pick_f rfl rfl rfl rfl (t_move rfl rfl rfl (t_move rfl rfl rfl (t_len Try.underlying27 rfl rfl rfl rfl (t_cmp rfl rfl rfl rfl rfl (t_samehd (v := .bool false) rfl (t_pick_f rfl rfl rfl rfl (t_move rfl rfl rfl (t_move rfl rfl rfl (t_len Try.underlying27 rfl rfl rfl rfl (t_cmp rfl rfl rfl rfl rfl (t_samehd (v := .bool false) rfl (t_pick_f rfl rfl rfl rfl (t_nil' (hK129 _ _ (c_cond_f rfl (c_skip (hK128 _ _ (c_seq fun K130 hK130 => ?_)))))))))))))))))))))))
 refine c_region (t_move rfl rfl rfl (t_move rfl rfl rfl ?_))
 have B131 := (((((((((B73.keep u77 (show ¬ (bk60 = bk65) by first | omega | assumption)).keep u83 (fun h => h)).keep u89 (fun h => h)).keep u92 (show ¬ (bk60 = bk86) by first | omega | assumption)).keep u99 (fun h => h)).keep u103 (fun h => h)).keep u112 (fun h => h)).keep u118 (fun h => h)).keep u125 (fun h => h))
 refine t_loadN (vs := [.int .i64 24, .int .i64 58]) Try.isAgg45 Try.sizeOf45 rfl rfl rfl (B131.at.sub 0 2) rfl (t_build (ps := [(0, .int .i64 24), (1, .int .i64 58)]) (v := .agg #[.int .i64 24, .int .i64 58]) rfl rfl ⟨rfl, rfl⟩ (fun w => by kernel_rfl) (t_eqS (xs := [.int .i64 24, .int .i64 58]) (ys := [.int .i64 24, .int .i64 58]) (by kernel_rfl) (eqIn45 9998 24 58 24 58) rfl rfl rfl rfl (t_samehd (v := .bool true) rfl (t_pick_t rfl rfl rfl rfl (t_move rfl rfl rfl ?_)))))
 have B132 := ((((((((B78.keep u83 (fun h => h)).keep u89 (fun h => h)).keep u92 (show ¬ (bk65 = bk86) by first | omega | assumption)).keep u99 (fun h => h)).keep u103 (fun h => h)).keep u112 (fun h => h)).keep u118 (fun h => h)).keep u125 (fun h => h))
 refine t_loadN (vs := [.int .i64 32, .int .i64 73]) Try.isAgg45 Try.sizeOf45 rfl rfl rfl (B132.at.sub 0 2) rfl (t_build (ps := [(0, .int .i64 32), (1, .int .i64 73)]) (v := .agg #[.int .i64 32, .int .i64 73]) rfl rfl ⟨rfl, rfl⟩ (fun w => by kernel_rfl) (t_eqS (xs := [.int .i64 32, .int .i64 73]) (ys := [.int .i64 32, .int .i64 73]) (by kernel_rfl) (eqIn45 9998 32 73 32 73) rfl rfl rfl rfl (t_samehd (v := .bool true) rfl (t_pick_t rfl rfl rfl rfl (t_move rfl rfl rfl ?_)))))
 have B133 := (((((B93.keep u99 (fun h => h)).keep u103 (fun h => h)).keep u112 (fun h => h)).keep u118 (fun h => h)).keep u125 (fun h => h))
 refine t_loadN (vs := [.int .i64 246, .int .i64 271]) Try.isAgg45 Try.sizeOf45 rfl rfl rfl (B133.at.sub 0 2) rfl (t_build (ps := [(0, .int .i64 246), (1, .int .i64 271)]) (v := .agg #[.int .i64 246, .int .i64 271]) rfl rfl ⟨rfl, rfl⟩ (fun w => by kernel_rfl) (t_eqS (xs := [.int .i64 246, .int .i64 271]) (ys := [.int .i64 246, .int .i64 271]) (by kernel_rfl) (eqIn45 9998 246 271 246 271) rfl rfl rfl rfl (t_samehd (v := .bool true) rfl (t_pick_t rfl rfl rfl rfl (t_move rfl rfl rfl (t_move rfl rfl rfl ?_))))))
 have D134 := (((hrows.keep u112 (fun _ h => h)).keep u118 (fun _ h => h)).keep u125 (fun _ h => h))
 have i135 : 0 < ([2, 2] : List Int).length := (by decide)
 refine t_index (j := 0) Try.underlying27 Try.sizeOf3 rfl rfl rfl rfl (D134.addr (by omega)) rfl (by omega) (t_load Try.isAgg3 rfl rfl rfl ((D134.at_ 0 (by decide)) 0 _ rfl) (t_cmp rfl rfl rfl rfl rfl (t_samehd (v := .bool true) rfl (t_pick_t rfl rfl rfl rfl (t_move rfl rfl rfl (t_move rfl rfl rfl ?_))))))
 have i136 : 1 < ([2, 2] : List Int).length := (by decide)
 refine t_index (j := 1) Try.underlying27 Try.sizeOf3 rfl rfl rfl rfl (D134.addr (by omega)) rfl (by omega) (t_load Try.isAgg3 rfl rfl rfl ((D134.at_ 1 (by decide)) 0 _ rfl) (t_cmp rfl rfl rfl rfl rfl (t_samehd (v := .bool true) rfl (t_pick_t rfl rfl rfl rfl (t_move rfl rfl rfl (t_move rfl rfl rfl (t_cmp rfl rfl rfl rfl rfl (t_samehd (v := .bool true) rfl (t_pick_t rfl rfl rfl rfl (t_move rfl rfl rfl (t_move rfl rfl rfl (t_index (j := 0) Try.underlying27 Try.sizeOf3 rfl rfl rfl rfl rfl rfl (by omega) (t_load Try.isAgg3 rfl rfl rfl (hH.get rfl) (t_cmp rfl rfl rfl rfl rfl (t_samehd (v := .bool true) rfl (t_pick_t rfl rfl rfl rfl (t_move rfl rfl rfl (t_move rfl rfl rfl (t_index (j := 1) Try.underlying27 Try.sizeOf3 rfl rfl rfl rfl rfl rfl (by omega) (t_load Try.isAgg3 rfl rfl rfl (hH.get rfl) (t_cmp rfl rfl rfl rfl rfl (t_samehd (v := .bool true) rfl (t_pick_t rfl rfl rfl rfl ?_)))))))))))))))))))))))
 refine t_assign rfl rfl rfl (t_nil' (hK130 _ _ (c_ret (f_ret1 (v := .bool true) Try.results16 rfl ?_))))
 exact ⟨rfl, E127⟩

end Go.Proofs.Ytmicjleiheoieaa
