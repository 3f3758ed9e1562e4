/-
  The statements about crews: their small functions. Conditions: none.
-/
import Derived.Test.YtagmodjadmecdaaGreatHA15
import Derived.Test.YtagmodjadmecdaaGreatHA16
namespace Go.Proofs.YtagmodjadmecdaaGreat
open Go Go.RowKit Tryz

structure U5 where
  a : Int
  b : Int
  c : Int
  d : Int
  e : Int
instance : Inhabited U5 := ⟨⟨default, default, default, default, default⟩⟩
structure U4 where
  a : Int
  b : Int
  c : Int
  d : Int
instance : Inhabited U4 := ⟨⟨default, default, default, default⟩⟩
theorem ok_snoc {l : List Dty} {d : Dty} (h : ∀ d ∈ l, okDty d = true) (hd : okDty d = true) : ∀ x ∈ l ++ [d], okDty x = true := fun x hx => by
  rcases List.mem_append.1 hx with hx | hx
  · exact h x hx
  · rw [List.mem_singleton.1 hx]; exact hd
theorem lng_snoc (l : List Dty) (d : Dty) : srtS ((l ++ [d]).map lngS) = insS (lngS d) (srtS (l.map lngS)) := by rw [ins_srtS, List.map_append]; rfl

theorem own9 : Own Tryz.prog 9 := ⟨Tryz.f9, func9, by kernel_rfl, by kernel_rfl⟩

theorem duties_c (l : List Dty) (al : Option Addr) (bl ol cl : Nat) (w0 : World) (hl : Sl encDty 4 w0 al bl ol l) (hll : l.length ≤ 1000000) (hpos : 0 < w0.heap.size) :
    CallsV Tryz.prog 9 [.slice al l.length cl] w0 (fun v w' => (∃ ao g cp, v = .slice ao (List.length l) cp ∧ Acc encDty 4 37 w0.heap.size w' ao g cp l) ∧ Ext w0 w') := by
 refine f_enter (N := 6) func9 rfl rfl rfl (c_seq fun K1 hK1 => (c_region (t_assign rfl rfl rfl (t_nil' (hK1 _ _ (c_seq fun K2 hK2 => (c_region (t_bslice (ps := []) (cs := []) (e := 37) rfl rfl ⟨rfl, rfl⟩ (fun w => by kernel_rfl) (fun bk3 w4 ebk3 sbk3 B5 u6 => ?_)))))))))
 have zu6 := u6.size
 have E7 := (Upd.refl (fun _ => False) w0).nx u6
 refine t_move rfl rfl rfl (t_copy (enc := encDty) (z := .agg #[.int .i64 0, .int .i64 0, .int .i64 0, .int .i64 0]) (bytes := 32) (k := 4) (ys := l) underlying24 (by kernel_rfl) rfl (by decide) (fun _ => rfl) (by intro x; simp [encDty, Value.oneCell']) rfl rfl rfl rfl B5 (hl.keep E7 (fun _ h => h)) (by omega) (by decide) (fun ao8 gb9 cp10 w11 A12 u13 gegb9 => ?_))
 have zu13 := u13.size
 have lt_gb9 := A12.lt
 refine t_assign rfl rfl rfl (t_nil' (hK2 _ _ (c_ret (f_ret1 (v := .slice ao8 l.length cp10) results9 rfl ?_))))
 obtain ⟨g9, ha9⟩ := Acc.lower (base' := w0.heap.size) A12 (by omega) hpos
 exact ⟨⟨ao8, g9, cp10, rfl, ha9⟩, (E7.next u13 (fun i hi h => by omega))⟩


end Go.Proofs.YtagmodjadmecdaaGreat
