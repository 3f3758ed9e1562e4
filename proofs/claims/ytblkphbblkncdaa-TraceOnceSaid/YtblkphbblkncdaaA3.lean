/-
  Contracts of the functions on surveys. Conditions: none.
-/
import Derived.Test.YtblkphbblkncdaaA1
import Derived.Test.YtblkphbblkncdaaSta
import Derived.Test.YtblkphbblkncdaaYl2
namespace Go.Proofs.Ytblkphbblkncdaa
open Go Go.RowKit

/-- What is known of the loss at some surveys: those before en. -/
structure Span where
  lo : Int
  hi : Int
  en : Int
instance : Inhabited Span := ⟨⟨default, default, default⟩⟩
def encSpan (x : Span) : List Value := [.int .i64 x.lo, .int .i64 x.hi, .int .i64 x.en]
def narrowF (s : Span) (x : Sur) : Span := ⟨max s.lo (x.book - x.hi), min s.hi (x.book - x.lo), s.en + 1⟩
theorem nth_set_eq {α : Type} [Inhabited α] {xs : List α} {j : Nat} {y : α} (h : j < xs.length) : nth (xs.set j y) j = y := by simp [nth, List.getD_eq_getElem?_getD, h]

theorem own62 : Own Try.prog 62 := ⟨Try.f62, Try.func62, by kernel_rfl, by kernel_rfl⟩
theorem own63 : Own Try.prog 63 := ⟨Try.f63, Try.func63, by kernel_rfl, by kernel_rfl⟩
theorem own82 : Own Try.prog 82 := ⟨Try.f82, Try.func82, by kernel_rfl, by kernel_rfl⟩

theorem narrow_c (base : Nat) (ao : Option Addr) (g cap : Nat) (xs : List Span) (j : Nat) (x : Sur) (w0 : World) (ha : Acc encSpan 3 144 base w0 ao g cap xs) (hj : j < xs.length) (hx : ((0 ≤ x.book ∧ x.book ≤ 1000000) ∧ (0 ≤ x.lo ∧ x.lo ≤ 1000000) ∧ (0 ≤ x.hi ∧ x.hi ≤ 1000000))) (hs : (0 ≤ (nth xs j).lo ∧ (nth xs j).lo ≤ 1000000) ∧ (-1000000 ≤ (nth xs j).hi ∧ (nth xs j).hi ≤ 1000000) ∧ (0 ≤ (nth xs j).en ∧ (nth xs j).en ≤ 1000000)) :
    CallsV Try.prog 62 [.pointer (some ⟨g, 0 + j * 3, none⟩), .agg #[.int .i64 x.book, .int .i64 x.lo, .int .i64 x.hi, .bool x.sealed]] w0 (fun _ w' => Acc encSpan 3 144 base w' ao g cap (xs.set j (narrowF (nth xs j) x)) ∧ Upd (fun i => i = g) w0 w') := by
 have hglt := ha.lt
 refine f_enter (N := 43) Try.func62 rfl rfl rfl (c_seq fun K1 hK1 => (c_region (t_box (cs := [.int .i64 x.book, .int .i64 x.lo, .int .i64 x.hi, .bool x.sealed]) rfl rfl rfl rfl (fun bk2 w3 ebk2 sbk2 B4 u5 => ?_))))
 have zu5 := u5.size
 refine t_nil' (hK1 _ _ (c_seq fun K7 hK7 => ?_))
 have D9 := (ha.keep u5 (fun _ h => h))
 refine c_drawn follows 34 [some (4, some (.pointer (some ⟨g, 0 + j * 3, none⟩))), some (5, some (.pointer (some ⟨g, 0 + j * 3, none⟩))), some (6, some (.pointer (some ⟨g, 0 + j * 3, none⟩))), some (7, some (.pointer (some ⟨g, 0 + j * 3, none⟩))), some (8, some (.pointer (some ⟨g, 0 + j * 3 + 0, none⟩))), some (9, some (.pointer (some ⟨g, 0 + j * 3 + 0 + 0, none⟩))), some (10, some (.int .i64 ((nth xs j).lo))), some (11, some (.pointer (some ⟨bk2, 0, none⟩))), some (12, some (.int .i64 x.book)), some (13, some (.pointer (some ⟨bk2, 1, none⟩))), some (14, some (.pointer (some ⟨bk2, 2, none⟩))), some (15, some (.int .i64 x.hi)), some (16, some (.int .i64 (x.book - x.hi))), some (17, some (.int .i64 (max ((nth xs j).lo) (x.book - x.hi)))), some (18, some (.pointer (some ⟨g, 0 + j * 3, none⟩))), some (19, some (.pointer (some ⟨g, 0 + j * 3, none⟩))), some (20, some (.pointer (some ⟨g, 0 + j * 3 + 0, none⟩))), some (21, some (.pointer (some ⟨g, 0 + j * 3 + 0 + 1, none⟩))), some (22, some (.int .i64 ((nth xs j).hi))), some (23, some (.pointer (some ⟨bk2, 0, none⟩))), some (24, some (.int .i64 x.book)), some (25, some (.pointer (some ⟨bk2, 1, none⟩))), some (26, some (.pointer (some ⟨bk2, 1, none⟩))), some (27, some (.int .i64 x.lo)), some (28, some (.int .i64 (x.book - x.lo))), some (29, some (.int .i64 (min ((nth xs j).hi) (x.book - x.lo)))), some (30, some (.pointer (some ⟨g, 0 + j * 3, none⟩))), some (31, some (.pointer (some ⟨g, 0 + j * 3 + 0, none⟩))), some (32, some (.pointer (some ⟨g, 0 + j * 3 + 0 + 0, none⟩))), none, some (33, some (.pointer (some ⟨g, 0 + j * 3, none⟩))), some (34, some (.pointer (some ⟨g, 0 + j * 3 + 0, none⟩))), some (35, some (.pointer (some ⟨g, 0 + j * 3 + 0 + 1, none⟩))), none] [[],[],[],[2],[3],[4],[5],[],[7],[],[9],[10],[8,11],[6,12],[],[14],[15],[16],[17],[],[19],[],[21],[22],[20,23],[18,24],[0,0,2,3,4,5,6,7,8,9,10,11,12,13,18],[26,0,2,3,4,5,6,7,8,9,10,11,12,13,18],[27,0,2,3,4,5,6,7,8,9,10,11,12,13,18],[28,13,0,2,3,4,5,6,7,8,9,10,11,12,13,18],[1,0,1,2,3,4,5,6,7,8,9,10,11,12,13,14,15,16,17,18,19,20,21,22,23,24,25,26,27,28,29],[30,0,1,2,3,4,5,6,7,8,9,10,11,12,13,14,15,16,17,18,19,20,21,22,23,24,25,26,27,28,29],[31,0,1,2,3,4,5,6,7,8,9,10,11,12,13,14,15,16,17,18,19,20,21,22,23,24,25,26,27,28,29],[32,25,29,0,1,2,3,4,5,6,7,8,9,10,11,12,13,14,15,16,17,18,19,20,21,22,23,24,25,26,27,28,29]] (fun D _ w => Upd (fun i => i = g) w3 w ∧ Acc encSpan 3 144 base w ao g cap (bif D 33 then ((xs.set j (⟨(max ((nth xs j).lo) (x.book - x.hi)), (nth xs j).hi, (nth xs j).en⟩)).set j (⟨(nth (xs.set j (⟨(max ((nth xs j).lo) (x.book - x.hi)), (nth xs j).hi, (nth xs j).en⟩)) j).lo, (min ((nth xs j).hi) (x.book - x.lo)), (nth (xs.set j (⟨(max ((nth xs j).lo) (x.book - x.hi)), (nth xs j).hi, (nth xs j).en⟩)) j).en⟩)) else (bif D 29 then (xs.set j (⟨(max ((nth xs j).lo) (x.book - x.hi)), (nth xs j).hi, (nth xs j).en⟩)) else xs))) rfl rfl rfl (by kernel_rfl) (by kernel_rfl) ⟨(Upd.drew _).to, (D9.keep (Upd.drew _) (fun _ h => h))⟩ ⟨?_, ?_, ?_, ?_, ?_, ?_, ?_, ?_, ?_, ?_, ?_, ?_, ?_, ?_, ?_, ?_, ?_, ?_, ?_, ?_, ?_, ?_, ?_, ?_, ?_, ?_, ?_, ?_, ?_, ?_, ?_, ?_, ?_, ?_, trivial⟩ ?_
 · exact pz rfl rfl rfl rfl fun _ _ _ h => h
 · exact pz rfl rfl rfl rfl fun _ _ _ h => h
 · exact pz rfl rfl rfl rfl fun _ _ _ h => h
 · exact pz rfl rfl rfl rfl fun _ _ _ h => h
 · exact pzf Try.underlying144 rfl Try.sizeOf77 (0 + j * 3 + 0) rfl rfl rfl rfl rfl fun _ _ _ h => h
 · exact pzf Try.underlying77 rfl Try.sizeOf3 (0 + j * 3 + 0 + 0) rfl rfl rfl rfl rfl fun _ _ _ h => h
 ·
  intro D ρ w10 hcD hnD hdD hW
  obtain ⟨u11, R12⟩ := hW
  have zu11 := u11.size
  have d33 := (hcD.late 33 hnD rfl)
  have d29 := (hcD.late 29 hnD rfl)
  have R14 := R12
  simp only [d33, d29, cond_false] at R14
  refine ⟨_, kf_fr [9], fun Lr => ?_⟩
  refine t_load Try.isAgg3 rfl rfl rfl (((R14.sl (fun _ => rfl)).at_ j (by omega)) 0 _ rfl) ?_
  exact dz rfl ⟨u11, R12⟩
 · exact pzf Try.underlying79 rfl Try.sizeOf3 (0) rfl rfl rfl rfl rfl fun _ _ _ h => h
 ·
  intro D ρ w15 hcD hnD hdD hW
  obtain ⟨u16, R17⟩ := hW
  have zu16 := u16.size
  have d33 := (hcD.late 33 hnD rfl)
  have d29 := (hcD.late 29 hnD rfl)
  have R19 := R17
  simp only [d33, d29, cond_false] at R19
  refine ⟨_, kf_fr [11], fun Lr => ?_⟩
  have B20 := (B4.keep u16 (by omega))
  refine t_load Try.isAgg3 rfl rfl rfl (B20.get rfl) ?_
  exact dz rfl ⟨u16, R17⟩
 · exact pzf Try.underlying79 rfl Try.sizeOf77 (1) rfl rfl rfl rfl rfl fun _ _ _ h => h
 · exact pzf Try.underlying77 rfl Try.sizeOf3 (2) rfl rfl rfl rfl rfl fun _ _ _ h => h
 ·
  intro D ρ w21 hcD hnD hdD hW
  obtain ⟨u22, R23⟩ := hW
  have zu22 := u22.size
  have d33 := (hcD.late 33 hnD rfl)
  have d29 := (hcD.late 29 hnD rfl)
  have R25 := R23
  simp only [d33, d29, cond_false] at R25
  refine ⟨_, kf_fr [14], fun Lr => ?_⟩
  have B26 := (B4.keep u22 (by omega))
  refine t_load Try.isAgg3 rfl rfl rfl (B26.get rfl) ?_
  exact dz rfl ⟨u22, R23⟩
 ·
  intro D ρ w27 hcD hnD hdD hW
  obtain ⟨u28, R29⟩ := hW
  have zu28 := u28.size
  have d33 := (hcD.late 33 hnD rfl)
  have d29 := (hcD.late 29 hnD rfl)
  have R31 := R29
  simp only [d33, d29, cond_false] at R31
  refine ⟨_, kf_fr [12, 15], fun Lr => ?_⟩
  refine t_ari rfl rfl rfl rfl rfl (by omega) ?_
  exact dz rfl ⟨u28, R29⟩
 ·
  intro D ρ w32 hcD hnD hdD hW
  obtain ⟨u33, R34⟩ := hW
  have zu33 := u33.size
  have d33 := (hcD.late 33 hnD rfl)
  have d29 := (hcD.late 29 hnD rfl)
  have R36 := R34
  simp only [d33, d29, cond_false] at R36
  refine ⟨_, kf_fr [10, 16], fun Lr => ?_⟩
  refine t_max rfl rfl rfl rfl ?_
  exact dz rfl ⟨u33, R34⟩
 · exact pz rfl rfl rfl rfl fun _ _ _ h => h
 · exact pz rfl rfl rfl rfl fun _ _ _ h => h
 · exact pzf Try.underlying144 rfl Try.sizeOf77 (0 + j * 3 + 0) rfl rfl rfl rfl rfl fun _ _ _ h => h
 · exact pzf Try.underlying77 rfl Try.sizeOf3 (0 + j * 3 + 0 + 1) rfl rfl rfl rfl rfl fun _ _ _ h => h
 ·
  intro D ρ w37 hcD hnD hdD hW
  obtain ⟨u38, R39⟩ := hW
  have zu38 := u38.size
  have d33 := (hcD.late 33 hnD rfl)
  have d29 := (hcD.late 29 hnD rfl)
  have R41 := R39
  simp only [d33, d29, cond_false] at R41
  refine ⟨_, kf_fr [21], fun Lr => ?_⟩
  refine t_load Try.isAgg3 rfl rfl rfl (((R41.sl (fun _ => rfl)).at_ j (by omega)) 1 _ rfl) ?_
  exact dz rfl ⟨u38, R39⟩
 · exact pzf Try.underlying79 rfl Try.sizeOf3 (0) rfl rfl rfl rfl rfl fun _ _ _ h => h
 ·
  intro D ρ w42 hcD hnD hdD hW
  obtain ⟨u43, R44⟩ := hW
  have zu43 := u43.size
  have d33 := (hcD.late 33 hnD rfl)
  refine ⟨_, kf_fr [23], fun Lr => ?_⟩
  have B46 := (B4.keep u43 (by omega))
  refine t_load Try.isAgg3 rfl rfl rfl (B46.get rfl) ?_
  exact dz rfl ⟨u43, R44⟩
 · exact pzf Try.underlying79 rfl Try.sizeOf77 (1) rfl rfl rfl rfl rfl fun _ _ _ h => h
 · exact pzf Try.underlying77 rfl Try.sizeOf3 (1) rfl rfl rfl rfl rfl fun _ _ _ h => h
 ·
  intro D ρ w47 hcD hnD hdD hW
  obtain ⟨u48, R49⟩ := hW
  have zu48 := u48.size
  have d33 := (hcD.late 33 hnD rfl)
  refine ⟨_, kf_fr [26], fun Lr => ?_⟩
  have B51 := (B4.keep u48 (by omega))
  refine t_load Try.isAgg3 rfl rfl rfl (B51.get rfl) ?_
  exact dz rfl ⟨u48, R49⟩
 ·
  intro D ρ w52 hcD hnD hdD hW
  obtain ⟨u53, R54⟩ := hW
  have zu53 := u53.size
  have d33 := (hcD.late 33 hnD rfl)
  refine ⟨_, kf_fr [24, 27], fun Lr => ?_⟩
  refine t_ari rfl rfl rfl rfl rfl (by omega) ?_
  exact dz rfl ⟨u53, R54⟩
 ·
  intro D ρ w56 hcD hnD hdD hW
  obtain ⟨u57, R58⟩ := hW
  have zu57 := u57.size
  have d33 := (hcD.late 33 hnD rfl)
  refine ⟨_, kf_fr [22, 28], fun Lr => ?_⟩
  refine t_min rfl rfl rfl rfl ?_
  exact dz rfl ⟨u57, R58⟩
 · exact pz rfl rfl rfl rfl fun _ _ _ h => h
 · exact pzf Try.underlying144 rfl Try.sizeOf77 (0 + j * 3 + 0) rfl rfl rfl rfl rfl fun _ _ _ h => h
 · exact pzf Try.underlying77 rfl Try.sizeOf3 (0 + j * 3 + 0 + 0) rfl rfl rfl rfl rfl fun _ _ _ h => h
 ·
  intro D ρ w60 hcD hnD hdD hW
  obtain ⟨u61, R62⟩ := hW
  have zu61 := u61.size
  have d33 := (hcD.late 33 hnD rfl)
  have R64 := R62
  simp only [d33, hnD, cond_false] at R64
  refine ⟨_, kf_fr [17, 32], fun Lr => ?_⟩
  refine t_storeA (vs := [.int .i64 (max ((nth xs j).lo) (x.book - x.hi))]) (j := j) (o' := 0) (k := 3) (⟨(max ((nth xs j).lo) (x.book - x.hi)), (nth xs j).hi, (nth xs j).en⟩) (fun _ => rfl) Try.sizeOf3 rfl rfl (by omega) rfl R64 (by first | exact hj | (simp only [List.length_set]; exact hj)) rfl rfl (by decide) (by simp [Value.oneCell']) rfl (fun w65 R67 u66 => ?_)
  have zu66 := u66.size
  exact dz0 rfl ⟨(u61.next u66 (fun i hi h => by omega)), (by show Acc encSpan 3 144 base w65 ao g cap (bif D 33 then ((xs.set j (⟨(max ((nth xs j).lo) (x.book - x.hi)), (nth xs j).hi, (nth xs j).en⟩)).set j (⟨(nth (xs.set j (⟨(max ((nth xs j).lo) (x.book - x.hi)), (nth xs j).hi, (nth xs j).en⟩)) j).lo, (min ((nth xs j).hi) (x.book - x.lo)), (nth (xs.set j (⟨(max ((nth xs j).lo) (x.book - x.hi)), (nth xs j).hi, (nth xs j).en⟩)) j).en⟩)) else (xs.set j (⟨(max ((nth xs j).lo) (x.book - x.hi)), (nth xs j).hi, (nth xs j).en⟩))); simp only [d33, cond_false]; exact R67)⟩
 · exact pz rfl rfl rfl rfl fun _ _ _ h => h
 · exact pzf Try.underlying144 rfl Try.sizeOf77 (0 + j * 3 + 0) rfl rfl rfl rfl rfl fun _ _ _ h => h
 · exact pzf Try.underlying77 rfl Try.sizeOf3 (0 + j * 3 + 0 + 1) rfl rfl rfl rfl rfl fun _ _ _ h => h
 ·
  intro D ρ w69 hcD hnD hdD hW
  obtain ⟨u70, R71⟩ := hW
  have zu70 := u70.size
  have d29 := (hdD 29 rfl)
  have R73 := R71
  simp only [hnD, d29, cond_true, cond_false] at R73
  refine ⟨_, kf_fr [29, 35], fun Lr => ?_⟩
  refine t_storeA (vs := [.int .i64 (min ((nth xs j).hi) (x.book - x.lo))]) (j := j) (o' := 1) (k := 3) (⟨(nth (xs.set j (⟨(max ((nth xs j).lo) (x.book - x.hi)), (nth xs j).hi, (nth xs j).en⟩)) j).lo, (min ((nth xs j).hi) (x.book - x.lo)), (nth (xs.set j (⟨(max ((nth xs j).lo) (x.book - x.hi)), (nth xs j).hi, (nth xs j).en⟩)) j).en⟩) (fun _ => rfl) Try.sizeOf3 rfl rfl (by omega) rfl R73 (by first | exact hj | (simp only [List.length_set]; exact hj)) rfl rfl (by decide) (by simp [Value.oneCell']) rfl (fun w74 R76 u75 => ?_)
  have zu75 := u75.size
  exact dz0 rfl ⟨(u70.next u75 (fun i hi h => by omega)), (by show Acc encSpan 3 144 base w74 ao g cap ((xs.set j (⟨(max ((nth xs j).lo) (x.book - x.hi)), (nth xs j).hi, (nth xs j).en⟩)).set j (⟨(nth (xs.set j (⟨(max ((nth xs j).lo) (x.book - x.hi)), (nth xs j).hi, (nth xs j).en⟩)) j).lo, (min ((nth xs j).hi) (x.book - x.lo)), (nth (xs.set j (⟨(max ((nth xs j).lo) (x.book - x.hi)), (nth xs j).hi, (nth xs j).en⟩)) j).en⟩)); exact R76)⟩
 intro ρ w78 hW
 obtain ⟨u79, R80⟩ := hW
 have zu79 := u79.size
 have R80 : Acc encSpan 3 144 base w78 ao g cap ((xs.set j (⟨(max ((nth xs j).lo) (x.book - x.hi)), (nth xs j).hi, (nth xs j).en⟩)).set j (⟨(nth (xs.set j (⟨(max ((nth xs j).lo) (x.book - x.hi)), (nth xs j).hi, (nth xs j).en⟩)) j).lo, (min ((nth xs j).hi) (x.book - x.lo)), (nth (xs.set j (⟨(max ((nth xs j).lo) (x.book - x.hi)), (nth xs j).hi, (nth xs j).en⟩)) j).en⟩)) := R80
 refine QK.weak [(0, .pointer (some ⟨g, 0 + j * 3, none⟩))] ⟨rfl, trivial⟩ (hK7 _ _ (c_region (t_move rfl rfl rfl (t_nilchk rfl rfl rfl (t_field Try.underlying144 rfl Try.sizeOf3 (0 + j * 3 + 2) rfl rfl rfl rfl (t_load Try.isAgg3 rfl rfl rfl (((R80.sl (fun _ => rfl)).at_ j (by simp only [List.length_set]; omega)) 2 _ rfl) (t_ari rfl rfl rfl rfl rfl (by simp only [nth_set_eq, List.length_set, hj]; omega) (t_nilchk rfl rfl rfl (t_field Try.underlying144 rfl Try.sizeOf3 (0 + j * 3 + 2) rfl rfl rfl rfl (t_storeA (vs := [.int .i64 ((nth ((xs.set j (⟨(max ((nth xs j).lo) (x.book - x.hi)), (nth xs j).hi, (nth xs j).en⟩)).set j (⟨(nth (xs.set j (⟨(max ((nth xs j).lo) (x.book - x.hi)), (nth xs j).hi, (nth xs j).en⟩)) j).lo, (min ((nth xs j).hi) (x.book - x.lo)), (nth (xs.set j (⟨(max ((nth xs j).lo) (x.book - x.hi)), (nth xs j).hi, (nth xs j).en⟩)) j).en⟩)) j).en + 1)]) (j := j) (o' := 2) (k := 3) (⟨(nth ((xs.set j (⟨(max ((nth xs j).lo) (x.book - x.hi)), (nth xs j).hi, (nth xs j).en⟩)).set j (⟨(nth (xs.set j (⟨(max ((nth xs j).lo) (x.book - x.hi)), (nth xs j).hi, (nth xs j).en⟩)) j).lo, (min ((nth xs j).hi) (x.book - x.lo)), (nth (xs.set j (⟨(max ((nth xs j).lo) (x.book - x.hi)), (nth xs j).hi, (nth xs j).en⟩)) j).en⟩)) j).lo, (nth ((xs.set j (⟨(max ((nth xs j).lo) (x.book - x.hi)), (nth xs j).hi, (nth xs j).en⟩)).set j (⟨(nth (xs.set j (⟨(max ((nth xs j).lo) (x.book - x.hi)), (nth xs j).hi, (nth xs j).en⟩)) j).lo, (min ((nth xs j).hi) (x.book - x.lo)), (nth (xs.set j (⟨(max ((nth xs j).lo) (x.book - x.hi)), (nth xs j).hi, (nth xs j).en⟩)) j).en⟩)) j).hi, ((nth ((xs.set j (⟨(max ((nth xs j).lo) (x.book - x.hi)), (nth xs j).hi, (nth xs j).en⟩)).set j (⟨(nth (xs.set j (⟨(max ((nth xs j).lo) (x.book - x.hi)), (nth xs j).hi, (nth xs j).en⟩)) j).lo, (min ((nth xs j).hi) (x.book - x.lo)), (nth (xs.set j (⟨(max ((nth xs j).lo) (x.book - x.hi)), (nth xs j).hi, (nth xs j).en⟩)) j).en⟩)) j).en + 1)⟩) (fun _ => rfl) Try.sizeOf3 rfl rfl (by omega) rfl R80 (by first | exact hj | (simp only [List.length_set]; exact hj)) rfl rfl (by decide) (by simp [Value.oneCell']) rfl (fun w82 R84 u83 => ?_)))))))))))
 have zu83 := u83.size
 refine t_nil' (f_ret0 Try.results62 ?_)
 exact ⟨by have h := R84; simpa only [List.set_set, nth_set_eq hj, narrowF] using h, ((((Upd.refl (fun i => i = g) w0).nx u5).next u79 (fun i hi h => by omega)).next u83 (fun i hi h => by omega))⟩

end Go.Proofs.Ytblkphbblkncdaa
