/-
  Contracts of the functions on layers. Conditions: none.
-/
import Derived.Test.YtblkphbblkncdaaA1
namespace Go.Proofs.Ytblkphbblkncdaa
open Go Go.RowKit

/-- A layer: its bill, its tons, the events in which they were moved. -/
structure Lay where
  bill : Int
  tons : Int
  path : List Int
instance : Inhabited Lay := ⟨⟨default, default, default⟩⟩
/-- A layer in memory. -/
structure HLay where
  v : Lay
  ao : Option Addr
  b : Nat
  cap : Nat
instance : Inhabited HLay := ⟨⟨default, default, default, default⟩⟩
def encHLay (x : HLay) : List Value := [.int .i64 x.v.bill, .int .i64 x.v.tons, .slice x.ao (x.v.path).length x.cap]
def sumT : List Lay → Int
  | [] => 0
  | x :: l => x.tons + sumT l
theorem sumT_append (l m : List Lay) : sumT (l ++ m) = sumT l + sumT m := by
  induction l with
  | nil => simp [sumT]
  | cons a l ih => simp only [List.cons_append, sumT, ih]; omega
theorem sumT_snoc (l : List Lay) (x : Lay) : sumT (l ++ [x]) = sumT l + x.tons := by rw [sumT_append]; simp [sumT]
def ofT (l : List Lay) (b : Int) : Int := sumT (l.filter fun x => decide (x.bill = b))
theorem ofT_snoc (l : List Lay) (x : Lay) (b : Int) : ofT (l ++ [x]) b = ofT l b + if x.bill = b then x.tons else 0 := by
  unfold ofT
  rw [List.filter_append, sumT_append]
  by_cases h : x.bill = b <;> simp [h, sumT]
theorem sumT_rng {B : Int} : ∀ {l : List Lay}, (∀ x ∈ l, 0 ≤ x.tons ∧ x.tons ≤ B) → 0 ≤ sumT l ∧ sumT l ≤ B * l.length
  | [], _ => by simp [sumT]
  | a :: l, h => by
    have h1 := sumT_rng (l := l) (fun x hx => h x (by simp [hx]))
    have h2 := h a (by simp)
    have e : B * ((a :: l).length : Int) = B * (l.length : Int) + B := by rw [List.length_cons, Int.natCast_succ, Int.mul_add, Int.mul_one]
    rw [e, sumT]; omega
theorem ofT_le {l : List Lay} {b : Int} (h : ∀ x ∈ l, 0 ≤ x.tons) : 0 ≤ ofT l b ∧ ofT l b ≤ sumT l := by
  induction l with
  | nil => simp [ofT, sumT]
  | cons a l ih =>
    have h1 := ih (fun x hx => h x (by simp [hx]))
    have h2 := h a (by simp)
    unfold ofT at h1 ⊢
    rw [List.filter_cons]
    split <;> simp only [sumT] <;> omega
theorem nth_mapl (xs : List HLay) (j : Nat) : nth (xs.map HLay.v) j = (nth xs j).v := by
  simp only [nth, List.getD_eq_getElem?_getD, List.getElem?_map]
  cases xs[j]? <;> rfl
theorem takeT {xs : List HLay} {k : Nat} (h : k < xs.length) : ((xs.take (k + 1)).map HLay.v) = (xs.take k).map HLay.v ++ [(nth xs k).v] := by rw [take_nth h, List.map_append]; rfl
theorem sumT_take {xs : List HLay} {B : Int} (h : ∀ x ∈ xs, 0 ≤ x.v.tons ∧ x.v.tons ≤ B) (k : Nat) : 0 ≤ sumT ((xs.take k).map HLay.v) ∧ sumT ((xs.take k).map HLay.v) ≤ B * ((xs.take k).map HLay.v).length :=
  sumT_rng (fun x hx => by obtain ⟨y, hy, rfl⟩ := List.mem_map.1 hx; exact h y (List.mem_of_mem_take hy))
def useF (x : Ev) : Bool := !decide (x.kind = 1 ∨ x.kind = 4)
def useT (x : Ev) : Bool := !decide (x.kind = 3 ∨ x.kind = 5)

theorem own53 : Own Try.prog 53 := ⟨Try.f53, Try.func53, by kernel_rfl, by kernel_rfl⟩
theorem own86 : Own Try.prog 86 := ⟨Try.f86, Try.func86, by kernel_rfl, by kernel_rfl⟩

theorem tons_c (xs : List HLay) (ao : Option Addr) (b o cap : Nat) (w0 : World) (hs : Sl encHLay 3 w0 ao b o xs) (hl : xs.length ≤ 1000000) (ht : ∀ x ∈ xs, 0 ≤ x.v.tons ∧ x.v.tons ≤ 1000000) :
    CallsV Try.prog 86 [.slice ao xs.length cap] w0 (fun v w' => v = .int .i64 (sumT (xs.map HLay.v)) ∧ Ext w0 w') := by
 refine f_enter (N := 17) Try.func86 rfl rfl rfl (c_seq fun K1 hK1 => (c_region (t_assign rfl rfl rfl (t_nil' (hK1 _ _ (c_seq fun K2 hK2 => (c_seq fun K3 hK3 => (c_region (t_move rfl rfl rfl (t_len Try.underlying120 rfl rfl rfl rfl (t_move rfl rfl rfl (t_nil' (hK3 _ _ (c_block (c_loop (γ := Nat) (fun k => [(2, .int .i64 (sumT ((xs.take k).map HLay.v))), (5, .slice ao xs.length cap), (6, .int .i64 (xs.length : Int)), (7, .int .i64 (k : Int))]) (fun k w => Upd (fun _ => False) w0 w ∧ (k ≤ xs.length) ∧ (0 ≤ sumT ((xs.take k).map HLay.v) ∧ sumT ((xs.take k).map HLay.v) ≤ 1000000 * k)) (fun k => xs.length - k) 0 ⟨rfl, rfl, rfl, rfl, trivial⟩ ⟨Upd.refl _ _, (Nat.zero_le _), (by simp [sumT, ofT])⟩ ?_)))))))))))))))
 intro k w5 hW K4 hK4
 obtain ⟨u6, I7, I8⟩ := hW
 have zu6 := u6.size
 have E9 := (Upd.refl (fun _ => False) w0).nx u6
 have hk := I7; clear I7
 have hsum := I8; clear I8
 refine c_seq fun K10 hK10 => (c_region (t_cmp rfl rfl rfl rfl rfl (t_nil' (hK10 _ _ (c_seq fun K11 hK11 => (c_condp rfl (fun g8 => ?_) (fun g8 => ?_)))))))
 ·
  refine c_skip (hK11 _ _ (c_seq fun K12 hK12 => (c_block (c_seq fun K13 hK13 => (c_region ?_)))))
  have i14 : k < xs.length := (by omega)
  refine t_index (j := k) Try.underlying120 Try.sizeOf97 rfl rfl rfl rfl ((hs.keep E9 (fun _ h => h)).addr (by omega)) rfl i14 (t_loadN (vs := [.int .i64 ((nth xs k).v.bill), .int .i64 ((nth xs k).v.tons), .slice ((nth xs k).ao) (((nth xs k).v.path).length) ((nth xs k).cap)]) Try.isAgg97 Try.sizeOf97 rfl rfl rfl (((hs.keep E9 (fun _ h => h)).at_ k (by omega)).sub 0 3) rfl ?_)
  have htk := ht _ (nth_mem (xs := xs) (i := k) (by omega))
  refine t_alloc (cs := [.int .i64 0, .int .i64 0, .slice none 0 0]) Try.zeroValue97 rfl rfl rfl (fun bk15 w16 ebk15 sbk15 B17 u18 => ?_)
  have zu18 := u18.size
  refine t_st (vs := [.int .i64 ((nth xs k).v.bill), .int .i64 ((nth xs k).v.tons), .slice ((nth xs k).ao) (((nth xs k).v.path).length) ((nth xs k).cap)]) Try.sizeOf97 rfl rfl rfl B17 rfl rfl rfl rfl (fun w20 sw20 B22 u21 => ?_)
  have zu21 := u21.size
  have B22 : Blk w20 bk15 97 [.int .i64 ((nth xs k).v.bill), .int .i64 ((nth xs k).v.tons), .slice ((nth xs k).ao) (((nth xs k).v.path).length) ((nth xs k).cap)] := B22
  refine t_nil' (hK13 _ _ (c_region (t_move rfl rfl rfl (t_field Try.underlying97 rfl Try.sizeOf3 (1) rfl rfl rfl rfl (t_load Try.isAgg3 rfl rfl rfl (B22.get rfl) (t_ari rfl rfl rfl rfl rfl (by omega) (t_assign rfl rfl rfl (t_nil' (hK12 _ _ (c_region (t_ari rfl rfl rfl rfl rfl (by omega) (t_move rfl rfl rfl (t_nil' ?_)))))))))))))
  exact hK4 (k + 1) _ _ (by omega) ⟨(congrArg some (congrArg (Value.int .i64) (by rw [takeT (by omega), sumT_snoc]))), rfl, rfl, rfl, trivial⟩ ⟨((u6.next u18 (fun _ _ h => h.elim)).next u21 (fun i hi h => by omega)), (by omega), (by rw [takeT (by omega), sumT_snoc]; have htk := ht _ (nth_mem (xs := xs) (i := k) (by omega)); omega)⟩
 refine c_exit (hK2 _ _ (c_seq fun K24 hK24 => (c_region (t_move rfl rfl rfl (t_assign rfl rfl rfl (t_nil' (hK24 _ _ (c_ret (f_ret1 (v := .int .i64 (sumT ((xs.take k).map HLay.v))) Try.results86 rfl ?_)))))))))
 exact ⟨by rw [List.take_of_length_le (by omega)], E9⟩

theorem of_c (xs : List HLay) (ao : Option Addr) (b o cap : Nat) (n : Int) (w0 : World) (hs : Sl encHLay 3 w0 ao b o xs) (hl : xs.length ≤ 1000000) (ht : ∀ x ∈ xs, 0 ≤ x.v.tons ∧ x.v.tons ≤ 1000000) :
    CallsV Try.prog 53 [.slice ao xs.length cap, .int .i64 n] w0 (fun v w' => v = .int .i64 (ofT (xs.map HLay.v) n) ∧ Ext w0 w') := by
 refine f_enter (N := 23) Try.func53 rfl rfl rfl (c_seq fun K1 hK1 => (c_region (t_assign rfl rfl rfl (t_nil' (hK1 _ _ (c_seq fun K2 hK2 => (c_seq fun K3 hK3 => (c_region (t_move rfl rfl rfl (t_len Try.underlying120 rfl rfl rfl rfl (t_move rfl rfl rfl (t_nil' (hK3 _ _ (c_block (c_loop (γ := Nat) (fun k => [(1, .int .i64 n), (4, .int .i64 (ofT ((xs.take k).map HLay.v) n)), (7, .slice ao xs.length cap), (8, .int .i64 (xs.length : Int)), (9, .int .i64 (k : Int))]) (fun k w => Upd (fun _ => False) w0 w ∧ (k ≤ xs.length) ∧ (0 ≤ ofT ((xs.take k).map HLay.v) n ∧ ofT ((xs.take k).map HLay.v) n ≤ 1000000 * k)) (fun k => xs.length - k) 0 ⟨rfl, rfl, rfl, rfl, rfl, trivial⟩ ⟨Upd.refl _ _, (Nat.zero_le _), (by simp [sumT, ofT])⟩ ?_)))))))))))))))
 intro k w5 hW K4 hK4
 obtain ⟨u6, I7, I8⟩ := hW
 have zu6 := u6.size
 have E9 := (Upd.refl (fun _ => False) w0).nx u6
 have hk := I7; clear I7
 have hsum := I8; clear I8
 refine c_seq fun K10 hK10 => (c_region (t_cmp rfl rfl rfl rfl rfl (t_nil' (hK10 _ _ (c_seq fun K11 hK11 => (c_condp rfl (fun g10 => ?_) (fun g10 => ?_)))))))
 ·
  refine c_skip (hK11 _ _ (c_seq fun K12 hK12 => (c_block (c_seq fun K13 hK13 => (c_region ?_)))))
  have i14 : k < xs.length := (by omega)
  refine t_index (j := k) Try.underlying120 Try.sizeOf97 rfl rfl rfl rfl ((hs.keep E9 (fun _ h => h)).addr (by omega)) rfl i14 (t_loadN (vs := [.int .i64 ((nth xs k).v.bill), .int .i64 ((nth xs k).v.tons), .slice ((nth xs k).ao) (((nth xs k).v.path).length) ((nth xs k).cap)]) Try.isAgg97 Try.sizeOf97 rfl rfl rfl (((hs.keep E9 (fun _ h => h)).at_ k (by omega)).sub 0 3) rfl ?_)
  have htk := ht _ (nth_mem (xs := xs) (i := k) (by omega))
  refine t_alloc (cs := [.int .i64 0, .int .i64 0, .slice none 0 0]) Try.zeroValue97 rfl rfl rfl (fun bk15 w16 ebk15 sbk15 B17 u18 => ?_)
  have zu18 := u18.size
  refine t_st (vs := [.int .i64 ((nth xs k).v.bill), .int .i64 ((nth xs k).v.tons), .slice ((nth xs k).ao) (((nth xs k).v.path).length) ((nth xs k).cap)]) Try.sizeOf97 rfl rfl rfl B17 rfl rfl rfl rfl (fun w20 sw20 B22 u21 => ?_)
  have zu21 := u21.size
  have B22 : Blk w20 bk15 97 [.int .i64 ((nth xs k).v.bill), .int .i64 ((nth xs k).v.tons), .slice ((nth xs k).ao) (((nth xs k).v.path).length) ((nth xs k).cap)] := B22
  refine t_nil' (hK13 _ _ (c_seq fun K24 hK24 => (c_region (t_field Try.underlying97 rfl Try.sizeOf3 (0) rfl rfl rfl rfl (t_load Try.isAgg3 rfl rfl rfl (B22.get rfl) (t_move rfl rfl rfl (t_cmp rfl rfl rfl rfl rfl (t_nil' (hK24 _ _ (c_condp rfl (fun g16 => ?_) (fun g16 => ?_)))))))))))
  ·
   refine c_region (t_move rfl rfl rfl (t_field Try.underlying97 rfl Try.sizeOf3 (1) rfl rfl rfl rfl (t_load Try.isAgg3 rfl rfl rfl (B22.get rfl) (t_ari rfl rfl rfl rfl rfl (by omega) (t_assign rfl rfl rfl (t_nil' (hK12 _ _ (c_region (t_ari rfl rfl rfl rfl rfl (by omega) (t_move rfl rfl rfl (t_nil' ?_)))))))))))
   exact hK4 (k + 1) _ _ (by omega) ⟨rfl, (congrArg some (congrArg (Value.int .i64) (by rw [takeT (by omega), ofT_snoc]; first | rw [if_pos g16] | (rw [if_neg g16]; omega)))), rfl, rfl, rfl, trivial⟩ ⟨((u6.next u18 (fun _ _ h => h.elim)).next u21 (fun i hi h => by omega)), (by omega), (by rw [takeT (by omega), ofT_snoc, if_pos g16]; have htk := ht _ (nth_mem (xs := xs) (i := k) (by omega)); omega)⟩
  refine c_skip (hK12 _ _ (c_region (t_ari rfl rfl rfl rfl rfl (by omega) (t_move rfl rfl rfl (t_nil' ?_)))))
  exact hK4 (k + 1) _ _ (by omega) ⟨rfl, (congrArg some (congrArg (Value.int .i64) (by rw [takeT (by omega), ofT_snoc]; first | rw [if_pos g16] | (rw [if_neg g16]; omega)))), rfl, rfl, rfl, trivial⟩ ⟨((u6.next u18 (fun _ _ h => h.elim)).next u21 (fun i hi h => by omega)), (by omega), (by rw [takeT (by omega), ofT_snoc, if_neg g16]; have htk := ht _ (nth_mem (xs := xs) (i := k) (by omega)); omega)⟩
 refine c_exit (hK2 _ _ (c_seq fun K25 hK25 => (c_region (t_move rfl rfl rfl (t_assign rfl rfl rfl (t_nil' (hK25 _ _ (c_ret (f_ret1 (v := .int .i64 (ofT ((xs.take k).map HLay.v) n)) Try.results53 rfl ?_)))))))))
 exact ⟨by rw [List.take_of_length_le (by omega)], E9⟩

theorem uses_c (x : Ev) (w0 : World) :
    CallsV Try.prog 85 [.agg #[.int .i64 x.kind, .int .i64 x.minute, .int .i64 x.bill, .int .i64 x.frm, .int .i64 x.to, .int .i64 x.tons, .int .i64 x.port, .int .i64 x.sn]] w0 (fun v w' => v = .tuple #[.bool (useF x), .bool (useT x)] ∧ Ext w0 w') := by
 refine f_enter (N := 12) Try.func85 rfl rfl rfl (c_seq fun K1 hK1 => (c_region (t_box (cs := [.int .i64 x.kind, .int .i64 x.minute, .int .i64 x.bill, .int .i64 x.frm, .int .i64 x.to, .int .i64 x.tons, .int .i64 x.port, .int .i64 x.sn]) rfl rfl rfl rfl (fun bk2 w3 ebk2 sbk2 B4 u5 => ?_))))
 have zu5 := u5.size
 have E6 := (Upd.refl (fun _ => False) w0).nx u5
 refine t_assign rfl rfl rfl (t_assign rfl rfl rfl (t_nil' (hK1 _ _ (c_seq fun K7 hK7 => (c_seq fun K8 hK8 => (c_region (t_field Try.underlying41 rfl Try.sizeOf39 (0) rfl rfl rfl rfl (t_load Try.isAgg39 rfl rfl rfl (B4.get rfl) (t_nil' (hK8 _ _ (c_block (c_seq fun K9 hK9 => (c_seq fun K10 hK10 => (c_region (t_cmp rfl rfl rfl rfl rfl (t_assign rfl rfl rfl (t_nil' (hK10 _ _ (c_condp rfl (fun g6 => ?_) (fun g6 => ?_))))))))))))))))))))
 ·
  refine c_skip (hK9 _ _ (c_condp rfl (fun g6 => ?_) (fun g6 => ?_)))
  ·
   refine c_seq fun K11 hK11 => (c_region (t_assign rfl rfl rfl (t_assign rfl rfl rfl (t_nil' (hK11 _ _ (c_ret (f_ret2 (v1 := .bool false) (v2 := .bool true) Try.results85 rfl rfl ?_)))))))
   exact ⟨by first | (exfalso; omega) | simp [useF, useT, *], E6⟩
  refine c_seq fun K12 hK12 => (c_seq fun K13 hK13 => (c_region (t_cmp rfl rfl rfl rfl rfl (t_assign rfl rfl rfl (t_nil' (hK13 _ _ (c_condp rfl (fun g9 => ?_) (fun g9 => ?_))))))))
  ·
   refine c_skip (hK12 _ _ (c_condp rfl (fun g9 => ?_) (fun g9 => ?_)))
   ·
    refine c_seq fun K14 hK14 => (c_region (t_assign rfl rfl rfl (t_assign rfl rfl rfl (t_nil' (hK14 _ _ (c_ret (f_ret2 (v1 := .bool true) (v2 := .bool false) Try.results85 rfl rfl ?_)))))))
    exact ⟨by first | (exfalso; omega) | simp [useF, useT, *], E6⟩
   refine c_skip (hK7 _ _ (c_seq fun K15 hK15 => (c_region (t_assign rfl rfl rfl (t_assign rfl rfl rfl (t_nil' (hK15 _ _ (c_ret (f_ret2 (v1 := .bool true) (v2 := .bool true) Try.results85 rfl rfl ?_)))))))))
   exact ⟨by first | (exfalso; omega) | simp [useF, useT, *], E6⟩
  refine c_region (t_cmp rfl rfl rfl rfl rfl (t_assign rfl rfl rfl (t_nil' (hK12 _ _ (c_condp rfl (fun g9 => ?_) (fun g9 => ?_))))))
  ·
   refine c_seq fun K16 hK16 => (c_region (t_assign rfl rfl rfl (t_assign rfl rfl rfl (t_nil' (hK16 _ _ (c_ret (f_ret2 (v1 := .bool true) (v2 := .bool false) Try.results85 rfl rfl ?_)))))))
   exact ⟨by first | (exfalso; omega) | simp [useF, useT, *], E6⟩
  refine c_skip (hK7 _ _ (c_seq fun K17 hK17 => (c_region (t_assign rfl rfl rfl (t_assign rfl rfl rfl (t_nil' (hK17 _ _ (c_ret (f_ret2 (v1 := .bool true) (v2 := .bool true) Try.results85 rfl rfl ?_)))))))))
  exact ⟨by first | (exfalso; omega) | simp [useF, useT, *], E6⟩
 refine c_region (t_cmp rfl rfl rfl rfl rfl (t_assign rfl rfl rfl (t_nil' (hK9 _ _ (c_condp rfl (fun g6 => ?_) (fun g6 => ?_))))))
 ·
  refine c_seq fun K18 hK18 => (c_region (t_assign rfl rfl rfl (t_assign rfl rfl rfl (t_nil' (hK18 _ _ (c_ret (f_ret2 (v1 := .bool false) (v2 := .bool true) Try.results85 rfl rfl ?_)))))))
  exact ⟨by first | (exfalso; omega) | simp [useF, useT, *], E6⟩
 refine c_seq fun K19 hK19 => (c_seq fun K20 hK20 => (c_region (t_cmp rfl rfl rfl rfl rfl (t_assign rfl rfl rfl (t_nil' (hK20 _ _ (c_condp rfl (fun g9 => ?_) (fun g9 => ?_))))))))
 ·
  refine c_skip (hK19 _ _ (c_condp rfl (fun g9 => ?_) (fun g9 => ?_)))
  ·
   refine c_seq fun K21 hK21 => (c_region (t_assign rfl rfl rfl (t_assign rfl rfl rfl (t_nil' (hK21 _ _ (c_ret (f_ret2 (v1 := .bool true) (v2 := .bool false) Try.results85 rfl rfl ?_)))))))
   exact ⟨by first | (exfalso; omega) | simp [useF, useT, *], E6⟩
  refine c_skip (hK7 _ _ (c_seq fun K22 hK22 => (c_region (t_assign rfl rfl rfl (t_assign rfl rfl rfl (t_nil' (hK22 _ _ (c_ret (f_ret2 (v1 := .bool true) (v2 := .bool true) Try.results85 rfl rfl ?_)))))))))
  exact ⟨by first | (exfalso; omega) | simp [useF, useT, *], E6⟩
 refine c_region (t_cmp rfl rfl rfl rfl rfl (t_assign rfl rfl rfl (t_nil' (hK19 _ _ (c_condp rfl (fun g9 => ?_) (fun g9 => ?_))))))
 ·
  refine c_seq fun K23 hK23 => (c_region (t_assign rfl rfl rfl (t_assign rfl rfl rfl (t_nil' (hK23 _ _ (c_ret (f_ret2 (v1 := .bool true) (v2 := .bool false) Try.results85 rfl rfl ?_)))))))
  exact ⟨by first | (exfalso; omega) | simp [useF, useT, *], E6⟩
 refine c_skip (hK7 _ _ (c_seq fun K24 hK24 => (c_region (t_assign rfl rfl rfl (t_assign rfl rfl rfl (t_nil' (hK24 _ _ (c_ret (f_ret2 (v1 := .bool true) (v2 := .bool true) Try.results85 rfl rfl ?_)))))))))
 exact ⟨by first | (exfalso; omega) | simp [useF, useT, *], E6⟩

end Go.Proofs.Ytblkphbblkncdaa
