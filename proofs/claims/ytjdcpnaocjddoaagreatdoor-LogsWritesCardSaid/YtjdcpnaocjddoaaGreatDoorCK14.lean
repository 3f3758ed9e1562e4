/-
  Part 14 of the proof: contracts and plain laws. Conditions: none.
-/
import Derived.Test.YtjdcpnaocjddoaaGreatDoorRows
import Derived.Handed
import Derived.LaidLaws
import Derived.Lib.LaidTab
import Derived.Test.YtjdcpnaocjddoaaGreatDoorCK13
namespace Go.Proofs.YtjdcpnaocjddoaaGreatDoor
open Go Go.RowKit Go.Proofs.Tryz
theorem eqIn43 (n : Nat) (a0 : Int) (a1 : Int) (a2 : Int) (a3 : Int) (a4 : Int) (a5 : Int) (b0 : Int) (b1 : Int) (b2 : Int) (b3 : Int) (b4 : Int) (b5 : Int) (w : World) : (Op.equalIn (n + 2) 43 (.agg #[.int .i64 a0, .int .i64 a1, .int .i64 a2, .int .i64 a3, .int .i64 a4, .int .i64 a5]) (.agg #[.int .i64 b0, .int .i64 b1, .int .i64 b2, .int .i64 b3, .int .i64 b4, .int .i64 b5])).run Tryz.prog w = .ok (decide (a0 = b0) && decide (a1 = b1) && decide (a2 = b2) && decide (a3 = b3) && decide (a4 = b4) && decide (a5 = b5)) w := by
  have hS : Tryz.prog.underlying 43 = some (.struct (Tryz.prog.fieldsOf 43)) := by kernel_rfl
  have hp : Tryz.prog.stoodInHeld 43 = false := by kernel_rfl
  have p0 : ∀ (a0 : Int) (a1 : Int) (a2 : Int) (a3 : Int) (a4 : Int) (a5 : Int), (part 3 #[.int .i64 a0, .int .i64 a1, .int .i64 a2, .int .i64 a3, .int .i64 a4, .int .i64 a5] 0).run Tryz.prog w = .ok (.int .i64 a0) w := fun _ _ _ _ _ _ => by simp [part, isAgg3]
  have p1 : ∀ (a0 : Int) (a1 : Int) (a2 : Int) (a3 : Int) (a4 : Int) (a5 : Int), (part 41 #[.int .i64 a0, .int .i64 a1, .int .i64 a2, .int .i64 a3, .int .i64 a4, .int .i64 a5] 1).run Tryz.prog w = .ok (.int .i64 a1) w := fun _ _ _ _ _ _ => by simp [part, isAgg41]
  have p2 : ∀ (a0 : Int) (a1 : Int) (a2 : Int) (a3 : Int) (a4 : Int) (a5 : Int), (part 3 #[.int .i64 a0, .int .i64 a1, .int .i64 a2, .int .i64 a3, .int .i64 a4, .int .i64 a5] 2).run Tryz.prog w = .ok (.int .i64 a2) w := fun _ _ _ _ _ _ => by simp [part, isAgg3]
  have p3 : ∀ (a0 : Int) (a1 : Int) (a2 : Int) (a3 : Int) (a4 : Int) (a5 : Int), (part 3 #[.int .i64 a0, .int .i64 a1, .int .i64 a2, .int .i64 a3, .int .i64 a4, .int .i64 a5] 3).run Tryz.prog w = .ok (.int .i64 a3) w := fun _ _ _ _ _ _ => by simp [part, isAgg3]
  have p4 : ∀ (a0 : Int) (a1 : Int) (a2 : Int) (a3 : Int) (a4 : Int) (a5 : Int), (part 3 #[.int .i64 a0, .int .i64 a1, .int .i64 a2, .int .i64 a3, .int .i64 a4, .int .i64 a5] 4).run Tryz.prog w = .ok (.int .i64 a4) w := fun _ _ _ _ _ _ => by simp [part, isAgg3]
  have p5 : ∀ (a0 : Int) (a1 : Int) (a2 : Int) (a3 : Int) (a4 : Int) (a5 : Int), (part 3 #[.int .i64 a0, .int .i64 a1, .int .i64 a2, .int .i64 a3, .int .i64 a4, .int .i64 a5] 5).run Tryz.prog w = .ok (.int .i64 a5) w := fun _ _ _ _ _ _ => by simp [part, isAgg3]
  have e3 := fun a b w => equal_i64 underlying3 (n + 0) a b w
  have e41 := fun a b w => equal_i64 underlying41 (n + 0) a b w
  rw [run_equalIn_struct w (n + 1) 43 _ _ hS hp]
  simp only [Program.fieldsOf, underlying43]
  simp only [Op.eqFields, Sem.run_bind, Sem.run_ite, p0, p1, p2, p3, p4, p5, e3, e41, Result.andThen_ok]
  by_cases h0 : a0 = b0 <;> by_cases h1 : a1 = b1 <;> by_cases h2 : a2 = b2 <;> by_cases h3 : a3 = b3 <;> by_cases h4 : a4 = b4 <;> by_cases h5 : a5 = b5 <;> simp [h0, h1, h2, h3, h4, h5]

theorem rBlock_c (x : List UInt8) (ax : Option Addr) (bx ox cx : Nat) (k : Nat) (w0 : World) (hx : Sl encY 1 w0 ax bx ox x) (hx30 : x.length = 30) (hk : k ≤ 2000000) (hpos : 0 < w0.heap.size) :
    CallsV Tryz.prog 55 [.slice ax x.length cx, .int .i64 (k : Int)] w0 (fun v w' => (∃ a9 g9 c9, v = .slice a9 (List.length ((mkB x).shutB k).l) c9 ∧ Acc encY 1 5 w0.heap.size w' a9 g9 c9 ((mkB x).shutB k).l) ∧ Ext w0 w') := by
 have hwr := weighP_range x
 have hcr := chkW_r x k
 refine f_n func55 ?_
 refine go ?_
 refine x_c func29 rfl rfl (rWeigh_c x ax bx ox cx 65521 _ hx (by omega) (by decide)) ?_
 rintro _ w4 ⟨rfl, u5⟩ zu5
 refine go ?_
 refine t_rem rfl rfl rfl rfl (by omega) (by omega) ?_
 refine go ?_
 refine x_l fun bk9 w10 ebk9 sbk9 B11 u12 => ?_
 refine go ?_
 refine t_copy (enc := encY) (z := .int .u8 0) (bytes := 1) (k := 1) (ys := x) underlying25 (by kernel_rfl) rfl (by decide) (fun _ => rfl) (by intro x; simp [encY, Value.oneCell']) rfl rfl rfl rfl B11 (hx.keep (((Upd.refl (fun _ => False) w0).nx u5).nx u12) (fun _ h => h)) (by omega) (by decide) (fun ao14 gb15 cp16 w17 A18 u19 gegb15 => ?_)
 have zu19 := u19.size
 have lt_gb15 := A18.lt
 refine go ?_
 refine t_quo rfl rfl rfl rfl (by omega) (by omega) (t_conv underlying3 underlying5 rfl rfl rfl (IntWalk.u8_in _ (by omega)) (t_same 17 (v := .int .u8 ((UInt8.ofNat ((chkW x k).toNat / 256)).toNat : Int)) rfl (congrArg (Value.int .u8) (u8_div hcr.1 (by omega)).1) ?_))
 refine go ?_
 refine t_rem rfl rfl rfl rfl (by omega) (by omega) (t_conv underlying3 underlying5 rfl rfl rfl (IntWalk.u8_in _ (by omega)) (t_same 20 (v := .int .u8 ((UInt8.ofNat ((chkW x k).toNat % 256)).toNat : Int)) rfl (congrArg (Value.int .u8) (u8_div hcr.1 (by omega)).2) ?_))
 refine x_l fun bk21 w22 ebk21 sbk21 B23 u24 => ?_
 refine t_same 21 (v := .slice (some ⟨bk21, 0, none⟩) 2 2) rfl rfl ?_
 have D26 := (A18.keep u24 (fun _ h => h))
 refine t_appendAll (enc := encY) (z := .int .u8 0) (bytes := 1) (k := 1) (base := bk9) (xs := x) (ys := [(UInt8.ofNat ((chkW x k).toNat / 256)), (UInt8.ofNat ((chkW x k).toNat % 256))]) underlying25 (by kernel_rfl) rfl (by decide) (fun _ => rfl) (by intro x; simp [encY, Value.oneCell']) rfl rfl rfl rfl D26 (Sl.ofBlk (enc := encY) (xs := [(UInt8.ofNat ((chkW x k).toNat / 256)), (UInt8.ofNat ((chkW x k).toNat % 256))]) (fun _ => rfl) B23) (by omega) (by omega) (by simp only [List.length_cons, List.length_nil]; omega) (by decide) (fun ao27 gb28 cp29 w30 A31 u32 gegb28 lngb28 => ?_)
 have zu32 := u32.size
 have lt_gb28 := A31.lt
 refine go ?_
 refine f_1 results55 ?_
 have hfin := shutB_bytes hx30 k
 obtain ⟨gz, hz⟩ := Acc.lower (base' := w0.heap.size) A31 (by omega) hpos
 rw [← hfin] at hz
 exact ⟨⟨_, gz, _, by rw [hfin], hz⟩, u_d⟩

instance : DecidableEq Ent := fun a b => if h : a.m = b.m ∧ a.k = b.k ∧ a.h = b.h ∧ a.p = b.p ∧ a.b = b.b ∧ a.t = b.t then isTrue (by cases a; cases b; simp at h; simp [h]) else isFalse (fun e => h (by rw [e]; exact ⟨rfl, rfl, rfl, rfl, rfl, rfl⟩))

theorem same_c (a b : List Ent) (aa : Option Addr) (ba oa ca : Nat) (ab : Option Addr) (bb ob cb : Nat) (w0 : World) (ha : Sl encEnt 6 w0 aa ba oa a) (hb : Sl encEnt 6 w0 ab bb ob b) (hal : a.length ≤ 1000000) :
    CallsV Tryz.prog 16 [.slice aa a.length ca, .slice ab b.length cb] w0 (fun v w' => v = .bool (decide (a = b)) ∧ Ext w0 w') := by
 refine f_n func16 ?_
 refine go ?_
 refine q_p (fun g10 => ?_) fun g10 => ?_
 ·
  refine go ?_
  refine f_1 results16 ?_
  exact ⟨congrArg Value.bool (decide_eq_false (fun e => g10 (by rw [e]))).symm, u_d⟩
 refine go ?_
 refine x_l1 (fun _ => False) [0, 1] (fun (j : Nat) => [(5, .int .i64 (j : Int))]) (fun j w => (j ≤ a.length) ∧ (a.take j = b.take j)) (fun j => a.length - j) 0 ⟨(Nat.zero_le _), rfl⟩ ?_
 rintro j w8 ⟨hj, he⟩ u9 zu9 K7 hK7
 refine go ?_
 refine q_p (fun g14 => ?_) fun g14 => ?_
 ·
  refine go ?_
  refine c_drawnM follows (fun _ => False) (OTl [0, 2, 4, 6, 8, 10, 12, 14, 16]) (by kernel_rfl) fun w15 u16 => ?_
  have zu16 := u16.size
  have E17 := Sc.mk (((Upd.refl (fun _ => False) w0).nx u9).nx u16)
  refine go ?_
  refine y_i j (ha.keep E17.u (fun _ h => h)) (fun _ => ?_)
  refine go ?_
  refine y_i j (hb.keep E17.u (fun _ h => h)) (fun _ => ?_)
  refine go ?_
  refine y_neS (xs := [.int .i64 ((nth a j).m), .int .i64 ((nth a j).k), .int .i64 ((nth a j).h), .int .i64 ((nth a j).p), .int .i64 ((nth a j).b), .int .i64 ((nth a j).t)]) (ys := [.int .i64 ((nth b j).m), .int .i64 ((nth b j).k), .int .i64 ((nth b j).h), .int .i64 ((nth b j).p), .int .i64 ((nth b j).b), .int .i64 ((nth b j).t)]) (by kernel_rfl) (eqIn43 9998 ((nth a j).m) ((nth a j).k) ((nth a j).h) ((nth a j).p) ((nth a j).b) ((nth a j).t) ((nth b j).m) ((nth b j).k) ((nth b j).h) ((nth b j).p) ((nth b j).b) ((nth b j).t)) rfl rfl rfl rfl ?_
  refine go ?_
  refine q_b (fun g25 => ?_) fun g25 => ?_
  ·
   have hq : ¬ (nth a j = nth b j) := by
     cases ha : nth a j; cases hb : nth b j
     simp [ha, hb] at g25 ⊢
     omega
   refine go ?_
   refine f_1 results16 ?_
   exact ⟨congrArg Value.bool (decide_eq_false (nth_take_ne hq)).symm, u_d⟩
  have hq : (nth a j = nth b j) := by
    cases ha : nth a j; cases hb : nth b j
    simp [ha, hb] at g25 ⊢
    omega
  refine go ?_
  exact hK7 (j + 1) ⟨(by omega), (take_eq he (by omega) (by omega) hq)⟩
 refine go ?_
 refine f_1 results16 ?_
 have hab : a = b := by
   rw [List.take_of_length_le (by omega), List.take_of_length_le (by omega)] at he
   exact he
 exact ⟨congrArg Value.bool (decide_eq_true hab).symm, u_d⟩

theorem rSame_c (a b : List UInt8) (aa : Option Addr) (ba oa ca : Nat) (ab : Option Addr) (bb ob cb : Nat) (w0 : World) (ha : Sl encY 1 w0 aa ba oa a) (hb : Sl encY 1 w0 ab bb ob b) (hal : a.length ≤ 1000000) :
    CallsV Tryz.prog 18 [.slice aa a.length ca, .slice ab b.length cb] w0 (fun v w' => v = .bool (decide (a = b)) ∧ Ext w0 w') := by
 refine f_n func18 ?_
 refine go ?_
 refine q_p (fun g10 => ?_) fun g10 => ?_
 ·
  refine go ?_
  refine f_1 results18 ?_
  exact ⟨congrArg Value.bool (decide_eq_false (fun e => g10 (by rw [e]))).symm, u_d⟩
 refine go ?_
 refine x_l1 (fun _ => False) [0, 1] (fun (j : Nat) => [(5, .int .i64 (j : Int))]) (fun j w => (j ≤ a.length) ∧ (a.take j = b.take j)) (fun j => a.length - j) 0 ⟨(Nat.zero_le _), rfl⟩ ?_
 rintro j w8 ⟨hj, he⟩ u9 zu9 K7 hK7
 refine go ?_
 refine q_p (fun g14 => ?_) fun g14 => ?_
 ·
  refine go ?_
  refine c_drawnM follows (fun _ => False) (OTl [0, 2, 4, 6, 8, 10, 12, 14, 16]) (by kernel_rfl) fun w15 u16 => ?_
  have zu16 := u16.size
  have E17 := Sc.mk (((Upd.refl (fun _ => False) w0).nx u9).nx u16)
  refine go ?_
  refine y_i j (ha.keep E17.u (fun _ h => h)) (fun _ => ?_)
  refine go ?_
  refine y_i j (hb.keep E17.u (fun _ h => h)) (fun _ => ?_)
  refine go ?_
  refine q_p (fun g25 => ?_) fun g25 => ?_
  ·
   have hq : ¬ (nth a j = nth b j) := fun e => g25 (by rw [e])
   refine go ?_
   refine f_1 results18 ?_
   exact ⟨congrArg Value.bool (decide_eq_false (nth_take_ne hq)).symm, u_d⟩
  have hq : (nth a j = nth b j) := UInt8.toNat_inj.1 (by omega)
  refine go ?_
  exact hK7 (j + 1) ⟨(by omega), (take_eq he (by omega) (by omega) hq)⟩
 refine go ?_
 refine f_1 results18 ?_
 have hab : a = b := by
   rw [List.take_of_length_le (by omega), List.take_of_length_le (by omega)] at he
   exact he
 exact ⟨congrArg Value.bool (decide_eq_true hab).symm, u_d⟩

end Go.Proofs.YtjdcpnaocjddoaaGreatDoor
namespace Go.Proofs.YtjdcpnaocjddoaaGreatDoor
open Go Go.RowKit
theorem made_flat {α : Type} [Inhabited α] {enc : α → List Value} {k : Nat} (hk0 : 0 < k) (hk : ∀ x, (enc x).length = k) (x0 : α) (n : Nat) : madeCells (enc x0).toArray (n * k) = ((List.replicate n x0).flatMap enc).toArray := by
  apply Array.ext
  · have := flatMap_len hk (List.replicate n x0)
    simp only [List.size_toArray, this, List.length_replicate]; simp [madeCells]
  · intro i h1 h2
    have hi : i < n * k := by simpa [madeCells] using h1
    have hq : i / k < n := (Nat.div_lt_iff_lt_mul hk0).2 hi
    have hm : i % k < k := Nat.mod_lt _ hk0
    have hlt : i % k < (enc x0).length := by rw [hk]; exact hm
    have h3 := flatMap_at hk (List.replicate n x0) (i / k) (i % k) ((enc x0)[i % k]) (by simpa using hq) (by
      rw [show nth (List.replicate n x0) (i / k) = x0 by simp [nth, List.getD_eq_getElem?_getD, hq]]
      exact List.getElem?_eq_getElem hlt)
    rw [show i / k * k + i % k = i from Nat.div_add_mod' i k] at h3
    have h4 : (madeCells (enc x0).toArray (n * k))[i] = (enc x0)[i % k] := by
      simp only [madeCells, Array.getElem_map, Array.getElem_range, List.size_toArray, hk]
      rw [getElem!_pos _ _ (by rw [List.size_toArray]; exact hlt)]
      simp
    rw [h4]
    have h5 : ((List.replicate n x0).flatMap enc)[i]'(by simpa using h2) = (enc x0)[i % k] := by
      rw [List.getElem_eq_iff]; exact h3
    simpa using h5.symm
section
variable {rd : Option Nat} {P : Program} {ops : Array Oper} {Q : Exit → Act → World → Prop} {N : Nat} {ds : List Deferred} {rest : List Oper} {L : Slots} {w : World}
variable {d : Nat} {ty : TypeId} {pos : String} {aft : Array Edge} {g : Option (Nat × Bool)}
/-- make([]E, n). -/
theorem t_makeN {α : Type} [Inhabited α] {enc : α → List Value} {k : Nat} {t e : TypeId} {x y : Operand} {n bytes : Nat} {m : Int} {z : Value} (x0 : α) (hu : P.underlying t = some (.slice e)) (hi : (P.info? e).map (fun i => (i.zero, i.size, i.bytes)) = some (some z, k, bytes)) (hz : z.cells = (enc x0).toArray) (hk0 : 0 < k) (hk : ∀ x, (enc x).length = k) (hb : bytes ≤ 1000)
    (hg : grd ops L g = true) (hN : Nat.blt d N = true) (hx : ev L x = some (.int .i64 m)) (hy : ev L y = some (.int .i64 m)) (em : m = (n : Int)) (hn : n ≤ 1000000)
    (h : ∀ b w', b = w.heap.size → w'.heap.size = w.heap.size + 1 → Acc enc k e b w' (some ⟨b, 0, none⟩) b n (List.replicate n x0) → Ext w w' → WL rd P ops Q N ds rest ((d, .slice (some ⟨b, 0, none⟩) n n) :: L) w') :
    WL rd P ops Q N ds (⟨some d, .makeSlice t x y, ty, pos, aft, g⟩ :: rest) L w := by
  subst em
  obtain ⟨i, hi0, hi1, hi2, hi3⟩ := info_parts' hi
  have hbn : (bytes : Int) * (n : Int) ≤ 1000 * 1000000 := by
    have := Nat.mul_le_mul hb hn
    have h2 : ((bytes * n : Nat) : Int) ≤ ((1000 * 1000000 : Nat) : Int) := by omega
    rw [Int.natCast_mul] at h2
    omega
  have hr := run_make (P := P) w t e i z hu hi0 hi1 .i64 .i64 (n : Int) (n : Int) (by omega) (Int.le_refl _) (by rw [hi3]; omega) (by omega)
  rw [hi2, Int.toNat_natCast, hz, made_flat hk0 hk x0 n] at hr
  have hB := Blk.new w e ((List.replicate n x0).flatMap enc)
  have hA := Acc.ofBlk enc k hk hB (Nat.le_refl _) (by simpa using hn)
  rw [List.length_replicate] at hA
  exact WL.value (w' := w.alloc (.cells ((List.replicate n x0).flatMap enc).toArray e)) hg rfl hN (fun a hk => by simp [execOp, hk.ev hx, hk.ev hy, hr]) (h _ _ rfl (by simp) hA (Upd.alloc _ _))
end
end Go.Proofs.YtjdcpnaocjddoaaGreatDoor
namespace Go.Proofs.YtjdcpnaocjddoaaGreatDoor
open Go Go.RowKit Go.Proofs.Tryz
theorem rDataE_c (bs : List (List UInt8)) (ab : Option Addr) (bb ob cb : Nat) (w0 : World) (hs : Sl encStr 1 w0 ab bb ob bs) (hb : ∀ x ∈ bs, ∀ c ∈ x, c = 48 ∨ c = 49) (hT0 : 0 < bs.flatten.length) (hTl : bs.flatten.length ≤ 900000) (hbl : bs.length ≤ 1000000) (hpos : 0 < w0.heap.size) :
    CallsV Tryz.prog 53 [.slice ab bs.length cb] w0 fun v w' => (∃ D a9 g9 c9, v = .slice a9 (List.length D) c9 ∧ Acc encY 1 5 w0.heap.size w' a9 g9 c9 D ∧ D = dataP bs.flatten) ∧ Ext w0 w' :=
  CallsV.mono (rData_c bs ab bb ob cb w0 hs hb hT0 hTl hbl hpos) (by rintro v w' ⟨⟨a, g, c, rfl, h⟩, u⟩; exact ⟨⟨_, a, g, c, rfl, h, rfl⟩, u⟩)
theorem dataP_bound {t : List UInt8} (hb : ∀ x ∈ t, x = 48 ∨ x = 49) : (dataP t).length % 30 = 0 ∧ 8 * (dataP t).length ≤ t.length + 240 := by
  obtain ⟨z, h1, _, h2, h3⟩ := digs_data t.length (Nat.le_refl _) hb
  have := congrArg List.length h2
  rw [digs_len, List.length_append, List.length_replicate] at this
  omega
theorem zero30 : zeroBk.l.take 30 = List.replicate 30 (0 : UInt8) := rfl

set_option maxHeartbeats 4000000 in
set_option maxRecDepth 20000 in
theorem rWrite_c (l : List Ent) (al : Option Addr) (bl ol cl : Nat) (w0 : World) (hl : Sl encEnt 6 w0 al bl ol l) (hok0 : chkE l = 0) (hpos : 0 < w0.heap.size) :
    CallsV Tryz.prog 19 [.slice al l.length cl] w0 (fun v w' => (∃ a9 g9 c9, v = .slice a9 (List.length (rLogP l)) c9 ∧ Acc encY 1 5 w0.heap.size w' a9 g9 c9 (rLogP l)) ∧ Ext w0 w') := by
 obtain ⟨hl1, hl2, hok⟩ := chkE_ok hok0
 have htl := tapeP_len hok0
 rw [← bitsP_flat] at htl
 have hbl := bitsP_len l 0
 have hbl2 : (bitsP l).length = (bitsG 0 l).length + 1 := List.length_cons
 have hT0 : 0 < (bitsP l).flatten.length := by have h9 := codeP_pos ((l.length : Int) - 1).toNat; have h8 : (bitsP l).flatten = codeP ((l.length : Int) - 1).toNat ++ (bitsG 0 l).flatten := List.flatten_cons; rw [h8, List.length_append]; omega
 refine f_n func19 ?_
 refine go ?_
 refine x_c func54 rfl rfl (rBits_c l al bl ol cl _ hl hok0 (by omega)) ?_
 rintro _ w4 ⟨⟨aB, gB, cB, rfl, hFB⟩, u5⟩ zu5
 have lt_gB := hFB.lt
 refine x_c func53 rfl rfl (rDataE_c (bitsP l) aB gB 0 cB _ (hFB.sl (fun _ => rfl)) bitsP_bits hT0 (by omega) (by omega) (by omega)) ?_
 rintro _ w9 ⟨⟨D, aD, gD, cD, rfl, hFD, hD⟩, u10⟩ zu10
 have lt_gD := hFD.lt
 obtain ⟨hD30, hD8⟩ := dataP_bound (t := (bitsP l).flatten) (by rw [bitsP_flat]; exact tapeP_bits)
 rw [← hD] at hD30 hD8
 have hcD := hFD.cap_le
 refine x_l fun bk13 w14 ebk13 sbk13 B15 u16 => ?_
 refine go ?_
 refine x_l4 (fun i => i = bk13 ∨ w14.heap.size ≤ i) [3] (fun (g : Nat) (f9 : Nat) (v : List Bk) (q : (Option Addr × Nat × Nat)) => [(4, .slice q.1 ((bytesP v).length) q.2.2), (5, .int .i64 (v.length : Int)), (6, .int .i64 (f9 : Int))]) (fun g f9 v q w => (f9 = 120 * g) ∧ (120 * g ≤ D.length + 119) ∧ (Acc encY 1 5 bk13 w q.1 q.2.1 q.2.2 (bytesP v)) ∧ (q.2.1 = bk13 ∨ w14.heap.size ≤ q.2.1) ∧ (rBlks D = grpN (D.length / 30) v ((datBs D (D.length / 30)).drop (4 * g))) ∧ (v.length ≤ 5 * g)) (fun g f9 v q => D.length + 120 - 120 * g) 0 0 ([]) (some ⟨bk13, 0, none⟩, bk13, 0) ⟨rfl, (by omega), (Acc.ofBlk (xs := ([] : List UInt8)) encY 1 (fun _ => rfl) B15 (Nat.le_refl _) (by decide)), (.inl rfl), rfl, (Nat.zero_le _)⟩ ?_
 rintro g f9 v q w21 ⟨hf9, hg, hAq, hqW, hgrp, hvl⟩ u22 zu22 K20 hK20
 have lt_q_2_1 := hAq.lt
 have hglq := hAq.lt
 have hbv := bytesP_len v
 refine go ?_
 refine q_p (fun g17 => ?_) fun g17 => ?_
 ·
  have hdl : ((datBs D (D.length / 30)).drop (4 * g)).length = D.length / 30 - 4 * g := by rw [List.length_drop, datBs_len]
  refine go ?_
  refine t_makeN (enc := encY) (z := .int .u8 0) (bytes := 1) (k := 1) (n := 30) (0 : UInt8) underlying25 (by kernel_rfl) rfl (by decide) (fun _ => rfl) (by decide) rfl rfl rfl rfl rfl (by decide) (fun bp28 w29 ebp28 sbp28 P30 u31 => ?_)
  have lt_bp28 := P30.lt
  refine go ?_
  have D35 := (hAq.keep u31 (fun _ h => h))
  refine x_l5 (fun i => i = bk13 ∨ w14.heap.size ≤ i) [3, 6, 7] (fun (i : Nat) (e9 : Nat) (v2 : List Bk) (r : (Option Addr × Nat × Nat)) (p : Bk) => [(4, .slice r.1 ((bytesP v2).length) r.2.2), (5, .int .i64 (v2.length : Int)), (8, .int .i64 (e9 : Int))]) (fun i e9 v2 r p w => (e9 = 120 * g + 30 * i) ∧ (i ≤ 4) ∧ (120 * g + 30 * i ≤ D.length) ∧ (Acc encY 1 5 bk13 w r.1 r.2.1 r.2.2 (bytesP v2)) ∧ (r.2.1 = bk13 ∨ w14.heap.size ≤ r.2.1) ∧ (Acc encY 1 5 bp28 w (some ⟨bp28, 0, none⟩) bp28 30 (p.l.take 30)) ∧ ((v2, p) = (((datBs D (D.length / 30)).drop (4 * g)).take i).foldl nextR (v, zeroBk)) ∧ (r.2.1 ≠ bp28)) (fun i e9 v2 r p => 4 - i) 0 f9 v q zeroBk ⟨(by omega), (by omega), (by omega), D35, (by omega), (by rw [zero30]; exact P30), rfl, (by omega)⟩ ?_
  rintro i e9 v2 r p w37 ⟨he9, hi, hiD, hAr, hrW, hPr, hvp, hrp⟩ u38 zu38 K36 hK36
  have lt_r_2_1 := hAr.lt
  have lt_bp28 := hPr.lt
  have hglr := hAr.lt
  have hbv2 := bytesP_len v2
  have hp30 := blk30 p
  have hvl2 := congrArg (fun z => z.1.length) hvp
  simp only [foldR_len, List.length_take] at hvl2
  refine st1 ?_
  refine x_k1 (fun _ => False) [3, 4, 5, 6, 7, 8] (fun (z9 : Bool) => [(31, .bool z9)]) (fun z9 w => (z9 = decide (i < 4 ∧ 120 * g + 30 * i < D.length))) (fun K45 hK45 => ?_) ?_
  ·
   refine go ?_
   refine t_splitp 26 rfl (fun g26 => ?_) (fun g26 => ?_)
   ·
    refine go ?_
    exact hK45 (decide ((e9 : Int) < (D.length : Int))) (by first | exact (decide_eq_false (by omega)).symm | exact decide_eq_decide.2 (by omega))
   refine go ?_
   exact hK45 false (by first | exact (decide_eq_false (by omega)).symm | exact decide_eq_decide.2 (by omega))
  rintro z9 w46 hz9 u47 zu47
  refine q_b (fun g31 => ?_) fun g31 => ?_
  ·
   have hzb : (i < 4 ∧ 120 * g + 30 * i < D.length) := by rw [hz9] at g31; exact of_decide_eq_true g31
   have hd30 : (dat30 D (4 * g + i)).length = 30 := dat30_len (by omega)
   have hdlt := (hFD).lt
   refine go ?_
   have D52 := (hPr.keep u47 (fun _ h => h))
   refine x_l1 (fun i => i = bp28) [3, 4, 5, 6, 7, 8] (fun (b : Nat) => [(9, .int .i64 (b : Int))]) (fun b w => (b ≤ 30) ∧ (Acc encY 1 5 bp28 w (some ⟨bp28, 0, none⟩) bp28 30 (mixK b (p.l.take 30) (dat30 D (4 * g + i))))) (fun b => 30 - b) 0 ⟨(Nat.zero_le _), D52⟩ ?_
   rintro b w54 ⟨hb, hPb⟩ u55 zu55 K53 hK53
   have lt_bp28 := hPb.lt
   have hmxl := mixK_lenN hp30 hd30 hb
   refine go ?_
   refine q_p (fun g35 => ?_) fun g35 => ?_
   ·
    refine go ?_
    refine c_drawnM follows (fun i => i = bp28) (OTl [0, 2, 4, 6, 8, 12, 14, 16, 18, 20, 22, 11, 24, 26, 29]) (by kernel_rfl) fun w60 u61 => ?_
    have zu61 := u61.size
    refine go ?_
    have D63 := (hPb.keep u61 (fun _ h => h))
    refine y_i b (D63.sl (fun _ => rfl)) (fun _ => ?_)
    refine go ?_
    have D65 := (((((((hFD.keep u16 (fun _ h => h)).keep u22 (fun hb => show ¬ (gD = bk13 ∨ w14.heap.size ≤ gD) by first | omega | assumption)).keep u31 (fun _ h => h)).keep u38 (fun hb => show ¬ (gD = bk13 ∨ w14.heap.size ≤ gD) by first | omega | assumption)).keep u47 (fun _ h => h)).keep u55 (fun hb => show ¬ (gD = bp28) by first | omega | assumption)).keep u61 (fun _ h => h))
    refine y_i (30 * (4 * g + i) + b) (D65.sl (fun _ => rfl)) (fun _ => ?_) (hj := (by omega))
    refine go ?_
    refine y_bo (Bo.xor8 (nth (mixK b (p.l.take 30) (dat30 D (4 * g + i))) b) (nth D (30 * (4 * g + i) + b))) rfl rfl rfl rfl ?_
    refine y_i b (D63.sl (fun _ => rfl)) (fun _ => ?_)
    refine go ?_
    refine t_storeA (vs := [.int .u8 (((nth (mixK b (p.l.take 30) (dat30 D (4 * g + i))) b) ^^^ (nth D (30 * (4 * g + i) + b))).toNat : Int)]) (j := b) (o' := 0) (k := 1) (nth (mixK b (p.l.take 30) (dat30 D (4 * g + i))) b ^^^ nth D (30 * (4 * g + i) + b)) (fun _ => rfl) sizeOf5 rfl rfl (by omega) rfl D63 (by first | omega | (simp only [List.length_set, eRuns_len]; omega)) rfl rfl (by decide) (by simp [Value.oneCell']) rfl (fun w68 R70 u69 => ?_)
    have zu69 := u69.size
    refine go ?_
    have hst9 : (mixK b (p.l.take 30) (dat30 D (4 * g + i))).set b (nth (mixK b (p.l.take 30) (dat30 D (4 * g + i))) b ^^^ nth D (30 * (4 * g + i) + b)) = mixK (b + 1) (p.l.take 30) (dat30 D (4 * g + i)) := by rw [mixK_nthN hp30 hd30 (show b < 30 by omega), ← dat30_nth (show b < 30 by omega), mixK_stepN hp30 hd30 (show b < 30 by omega)]
    exact hK53 (b + 1) ⟨(by omega), (by rw [← hst9]; exact R70)⟩
   refine go ?_
   have D72 := ((((((hFD.keep u16 (fun _ h => h)).keep u22 (fun hb => show ¬ (gD = bk13 ∨ w14.heap.size ≤ gD) by first | omega | assumption)).keep u31 (fun _ h => h)).keep u38 (fun hb => show ¬ (gD = bk13 ∨ w14.heap.size ≤ gD) by first | omega | assumption)).keep u47 (fun _ h => h)).keep u55 (fun hb => show ¬ (gD = bp28) by first | omega | assumption))
   refine t_sliceM ((30 * (4 * g + i))) (30) underlying25 sizeOf5 rfl rfl rfl rfl rfl (by omega) (by omega) (by omega) (t_same 57 (v := .slice (subAddr aD cD (30 * (4 * g + i)) 1) ((dat30 D (4 * g + i)).length) (cD - (30 * (4 * g + i)))) rfl (by rw [hd30]) ?_)
   refine go ?_
   refine x_c func55 rfl rfl (rBlock_c (dat30 D (4 * g + i)) (subAddr aD cD (30 * (4 * g + i)) 1) gD (0 + (30 * (4 * g + i)) * 1) (cD - (30 * (4 * g + i))) v2.length _ ((D72.sl (fun _ => rfl)).sub cD (30 * (4 * g + i)) 30 (by omega)) (by first | exact hd30 | exact blk30 _) (by omega) (by omega)) ?_
   rintro _ w75 ⟨⟨ak73, gk73, ck73, rfl, hFk73⟩, u76⟩ zu76
   have lt_gk73 := hFk73.lt
   have D79 := (((hAr.keep u47 (fun _ h => h)).keep u55 (fun hb => show ¬ (r.2.1 = bp28) by first | omega | assumption)).keep u76 (fun _ h => h))
   refine t_appendAll (enc := encY) (z := .int .u8 0) (bytes := 1) (k := 1) (base := bk13) (xs := (bytesP v2)) (ys := ((mkB (dat30 D (4 * g + i))).shutB v2.length).l) underlying25 (by kernel_rfl) rfl (by decide) (fun _ => rfl) (by intro x; simp [encY, Value.oneCell']) rfl rfl rfl rfl D79 (hFk73.sl (fun _ => rfl)) (by omega) (by omega) (by rw [Bk.h]; decide) (by decide) (fun ao80 gb81 cp82 w83 A84 u85 gegb81 lngb81 => ?_)
   have zu85 := u85.size
   have lt_gb81 := A84.lt
   refine go ?_
   have hnd9 : nth ((datBs D (D.length / 30)).drop (4 * g)) i = mkB (dat30 D (4 * g + i)) := by rw [nth_drop, datBs_nth (by omega)]
   have hmx9 : (p.mix (mkB (dat30 D (4 * g + i)))).l.take 30 = mixK b (p.l.take 30) (dat30 D (4 * g + i)) := by rw [show b = 30 by omega, mixK_fullN hp30 hd30, mix_take, (mkB_take hd30).1]
   have D87 := ((hPb.keep u76 (fun _ h => h)).keep u85 (fun hb => show ¬ ((bp28 = r.2.1 ∧ bk13 ≤ bp28)) by first | omega | assumption))
   exact hK36 (i + 1) (e9 + 30) (v2 ++ [(mkB (dat30 D (4 * g + i))).shutB v2.length]) (ao80, gb81, cp82) (p.mix (mkB (dat30 D (4 * g + i)))) ⟨(by omega), (by omega), (by omega), (by rw [bytesP_snoc]; exact A84), (show gb81 = bk13 ∨ w14.heap.size ≤ gb81 by omega), (by rw [hmx9]; exact D87), (by rw [foldR_snoc (by rw [hdl]; omega), ← hvp, hnd9]; rfl), (show gb81 ≠ bp28 by omega)⟩ (hs := by exact ⟨(by rw [bytesP_snoc]; rfl), (congrArg (fun z => some (Value.int .i64 z)) (by rw [List.length_append]; simp only [List.length_cons, List.length_nil]; omega)), rfl, rfl, rfl, rfl, trivial⟩)
  have hzb : ¬ (i < 4 ∧ 120 * g + 30 * i < D.length) := by rw [hz9] at g31; exact of_decide_eq_false g31
  iterate 9 refine st1 ?_
  refine t_same 64 (v := .slice (some ⟨bp28, 0, none⟩) ((p.l.take 30).length) 30) rfl (by rw [hp30]) ?_
  refine go ?_
  have D88 := (hPr.keep u47 (fun _ h => h))
  refine x_c func55 rfl rfl (rBlock_c (p.l.take 30) (some ⟨bp28, 0, none⟩) bp28 0 30 v2.length _ (D88.sl (fun _ => rfl)) (by first | exact hd30 | exact blk30 _) (by omega) (by omega)) ?_
  rintro _ w91 ⟨⟨ak89, gk89, ck89, rfl, hFk89⟩, u92⟩ zu92
  have lt_gk89 := hFk89.lt
  have D95 := ((hAr.keep u47 (fun _ h => h)).keep u92 (fun _ h => h))
  refine t_appendAll (enc := encY) (z := .int .u8 0) (bytes := 1) (k := 1) (base := bk13) (xs := (bytesP v2)) (ys := ((mkB (p.l.take 30)).shutB v2.length).l) underlying25 (by kernel_rfl) rfl (by decide) (fun _ => rfl) (by intro x; simp [encY, Value.oneCell']) rfl rfl rfl rfl D95 (hFk89.sl (fun _ => rfl)) (by omega) (by omega) (by rw [Bk.h]; decide) (by decide) (fun ao96 gb97 cp98 w99 A100 u101 gegb97 lngb97 => ?_)
  have zu101 := u101.size
  have lt_gb97 := A100.lt
  refine go ?_
  have hst9 : bytesP (shutG (v2, p)) = bytesP v2 ++ ((mkB (p.l.take 30)).shutB v2.length).l := by rw [shutB_mk]; exact bytesP_snoc v2 _
  have h4 : ((datBs D (D.length / 30)).drop (4 * g)).take 4 = ((datBs D (D.length / 30)).drop (4 * g)).take i := by
    rcases Nat.lt_or_ge i 4 with q9 | q9
    · rw [List.take_of_length_le (by rw [hdl]; omega), List.take_of_length_le (by rw [hdl]; omega)]
    · rw [show i = 4 by omega]
  exact hK20 (g + 1) (f9 + 120) (shutG (v2, p)) (ao96, gb97, cp98) ⟨(by omega), (by omega), (by rw [hst9]; exact A100), (show gb97 = bk13 ∨ w14.heap.size ≤ gb97 by omega), (by rw [hgrp, grpN_step (by rw [hdl]; omega) (by rw [hdl]; omega), h4, ← hvp, List.drop_drop, show 4 * g + 4 = 4 * (g + 1) by omega]), (by rw [show shutG (v2, p) = v2 ++ [p.shutB v2.length] from rfl, List.length_append]; simp only [List.length_cons, List.length_nil]; omega)⟩ (hs := by exact ⟨(by rw [hst9]; rfl), (congrArg (fun z => some (Value.int .i64 z)) (by show _ = (((v2 ++ [p.shutB v2.length]).length : Nat) : Int); rw [List.length_append]; simp only [List.length_cons, List.length_nil]; omega)), rfl, rfl, trivial⟩)
 refine go ?_
 refine f_1 results19 ?_
 have hfin : v = rBlks D := by rw [hgrp, List.drop_of_length_le (by rw [datBs_len]; omega), grpN_nil]
 obtain ⟨gz, hz⟩ := Acc.lower (base' := w0.heap.size) hAq (by omega) hpos
 have hlg : rLogP l = bytesP v := by rw [hfin, hD]; rfl
 exact ⟨⟨_, gz, _, by rw [hlg], by rw [hlg]; exact hz⟩, u_d⟩

end Go.Proofs.YtjdcpnaocjddoaaGreatDoor
namespace Go.Proofs.YtjdcpnaocjddoaaGreatDoor
open Go Go.RowKit Go.Proofs.Tryz
set_option maxHeartbeats 4000000 in
theorem LogsWrites_c (l : List Ent) (al : Option Addr) (bl ol cl : Nat) (w0 : World) (hl : Sl encEnt 6 w0 al bl ol l) (hT : Tab10 w0) (hpos : 0 < w0.heap.size) :
    CallsV Tryz.prog 3 [.slice al l.length cl] w0 (fun v w' => v = .bool true ∧ Ext w0 w') := by
 refine f_n func3 ?_
 iterate 6 refine st1 ?_
 refine x_k1 (fun _ => False) [0] (fun (z9 : Bool) => [(19, .bool z9)]) (fun z9 w => (z9 = decide ((60 < l.length ∧ l.length ≤ 2000) ∨ 2010 < l.length))) (fun K7 hK7 => ?_) ?_
 ·
  refine go ?_
  refine t_splitp 10 rfl (fun g10 => ?_) (fun g10 => ?_)
  ·
   refine go ?_
   refine t_splitp 15 rfl (fun g15 => ?_) (fun g15 => ?_)
   ·
    refine go ?_
    exact hK7 true (by first | exact (decide_eq_false (by omega)).symm | exact (decide_eq_true (by omega)).symm | exact decide_eq_decide.2 (by omega))
   refine go ?_
   exact hK7 (decide (2010 < (l.length : Int))) (by first | exact (decide_eq_false (by omega)).symm | exact (decide_eq_true (by omega)).symm | exact decide_eq_decide.2 (by omega))
  refine go ?_
  exact hK7 (decide (2010 < (l.length : Int))) (by first | exact (decide_eq_false (by omega)).symm | exact (decide_eq_true (by omega)).symm | exact decide_eq_decide.2 (by omega))
 rintro z9 w8 hz9 u9 zu9
 have E10 := Sc.mk ((Upd.refl (fun _ => False) w0).nx u9)
 refine q_b (fun g19 => ?_) fun g19 => ?_
 ·
  have hzb : ((60 < l.length ∧ l.length ≤ 2000) ∨ 2010 < l.length) := by rw [hz9] at g19; exact of_decide_eq_true g19
  refine go ?_
  refine x_c func13 rfl rfl (known_c _ (hT.ext E10.u) (by omega)) ?_
  rintro _ w13 ⟨rfl, u14⟩ zu14
  refine go ?_
  refine f_1 results3 ?_
  exact ⟨rfl, u_d⟩
 have hzb : ¬ ((60 < l.length ∧ l.length ≤ 2000) ∨ 2010 < l.length) := by rw [hz9] at g19; exact of_decide_eq_false g19
 refine go ?_
 refine x_c func14 rfl rfl (entries_c l al bl ol cl _ (hl.keep E10.u (fun _ h => h)) (by omega) (by omega)) ?_
 rintro _ w20 ⟨⟨ae18, ge18, ce18, rfl, hFe18⟩, u21⟩ zu21
 have lt_ge18 := hFe18.lt
 refine go ?_
 refine x_c func15 rfl rfl (WriteLog_c l ae18 ge18 0 ce18 _ (hFe18.sl (fun _ => rfl)) (by omega) (by omega)) ?_
 rintro _ w27 ⟨⟨al25, gl25, cl25, rfl, hFl25⟩, u28⟩ zu28
 have E30 := Sc.mk ((E10.u.nx u21).nx u28)
 have lt_gl25 := hFl25.lt
 refine go ?_
 have D33 := (hFe18.keep u28 (fun _ h => h))
 refine x_c func16 rfl rfl (same_c l l ae18 ge18 0 ce18 al bl ol cl _ (D33.sl (fun _ => rfl)) (hl.keep E30.u (fun _ h => h)) (by omega)) ?_
 rintro _ w35 ⟨rfl, u36⟩ zu36
 have E38 := Sc.mk (E30.u.nx u36)
 refine t_same 30 (v := .bool true) rfl (congrArg Value.bool (decide_eq_true (by rfl))) ?_
 refine go ?_
 refine x_c func17 rfl rfl (rEntries_c l al bl ol cl _ (hl.keep E38.u (fun _ h => h)) (by omega)) ?_
 rintro _ w43 ⟨rfl, u44⟩ zu44
 have E46 := Sc.mk (E38.u.nx u44)
 refine go ?_
 refine q_p (fun g35 => ?_) fun g35 => ?_
 ·
  iterate 5 refine st1 ?_
  refine t_samehd (v := .bool true) (by simp) ?_
  iterate 4 refine st1 ?_
  refine t_same 42 (v := .bool true) rfl (congrArg Value.bool (decide_eq_true (by unfold logP; rw [if_neg (by omega)]; rfl))) ?_
  refine go ?_
  refine x_c func13 rfl rfl (known_c _ (hT.ext E46.u) (by omega)) ?_
  rintro _ w50 ⟨rfl, u51⟩ zu51
  refine go ?_
  refine f_1 results3 ?_
  exact ⟨rfl, u_d⟩
 have hok0 : chkE l = 0 := by omega
 obtain ⟨hl1, hl2, hok⟩ := chkE_ok hok0
 have hlg : (logP l).length ≤ 960000 := by
   have h9 := writeP_len hok0
   unfold logP
   rw [if_pos hok0, bytesP_len]; omega
 iterate 6 refine st1 ?_
 refine t_same 48 (v := .bool true) rfl (congrArg Value.bool (decide_eq_true (by omega))) ?_
 refine go ?_
 refine x_c func19 rfl rfl (rWrite_c l al bl ol cl _ (hl.keep E46.u (fun _ h => h)) hok0 (by omega)) ?_
 rintro _ w57 ⟨⟨aw55, gw55, cw55, rfl, hFw55⟩, u58⟩ zu58
 have lt_gw55 := hFw55.lt
 have D61 := (((hFl25.keep u36 (fun _ h => h)).keep u44 (fun _ h => h)).keep u58 (fun _ h => h))
 refine x_c func18 rfl rfl (rSame_c (logP l) (rLogP l) al25 gl25 0 cl25 aw55 gw55 0 cw55 _ (D61.sl (fun _ => rfl)) (hFw55.sl (fun _ => rfl)) (by omega)) ?_
 rintro _ w63 ⟨rfl, u64⟩ zu64
 refine t_same 53 (v := .bool true) rfl (congrArg Value.bool (decide_eq_true (by rw [rLogP_eq hok0]; unfold logP; rw [if_pos hok0]))) ?_
 refine go ?_
 refine x_c func13 rfl rfl (known_c _ (hT.ext ((E46.u.nx u58).nx u64)) (by omega)) ?_
 rintro _ w68 ⟨rfl, u69⟩ zu69
 refine go ?_
 refine f_1 results3 ?_
 exact ⟨rfl, u_d⟩

end Go.Proofs.YtjdcpnaocjddoaaGreatDoor
namespace Go.Proofs.YtjdcpnaocjddoaaGreatDoor
open Go Go.RowKit Go.Proofs.Tryz
end Go.Proofs.YtjdcpnaocjddoaaGreatDoor
namespace Go.Proofs.YtjdcpnaocjddoaaGreatDoor
open Go Go.RowKit
/-! ### the witness: a world in which the listed variables hold what is told of them -/
def litC : DataW Unit → Value
  | .lit (.int k n) => .int k n
  | _ => .int .i64 0
def aggC : DataW Unit → List Value
  | .agg l => l.map litC
  | _ => []
def aggD : DataW Unit → List Value
  | .agg l => l.flatMap aggC
  | _ => []
def strC : DataW Unit → Value
  | .iface _ (.ptr (.agg [.lit (.string s)])) => .string ⟨s.toArray⟩
  | _ => .int .i64 0
def setC (cs : List Value) : Obj → Obj
  | .cells _ t f => .cells cs.toArray t f
  | o => o
noncomputable def laidWorld (os : Os) : World :=
  { World.holding Tryz.prog os ⟨#[], #[], []⟩ with heap := (((((((((World.holding Tryz.prog os ⟨#[], #[], []⟩).heap.modify 6 (setC (aggC Rows.laid_math_bits_deBruijn32tab))).modify 7 (setC (aggC Rows.laid_math_bits_deBruijn64tab))).modify 5 (setC (aggC Rows.laid_internal_strconv_uint64pow10))).modify 4 (setC (aggD Rows.laid_unicode_utf8_acceptRanges))).modify 3 (setC (aggC Rows.laid_unicode_utf8_first))).modify 2 (setC [.iface 261 (.pointer (some ⟨13, 0, none⟩))])).modify 1 (setC [.iface 261 (.pointer (some ⟨14, 0, none⟩))])).push (.cells #[strC Rows.laid_strconv_ErrRange] 263 (0, 0))).push (.cells #[strC Rows.laid_strconv_ErrSyntax] 263 (0, 0)) }
theorem laid_met (os : Os) (args : Array Value) : laidMet Tryz.prog Rows.logsCodesRow.laid ((laidWorld os).forCall (fun _ _ => 0) ⟨#[], args, []⟩).memory :=
  laidMet_of_run' 8 (by kernel_rfl) (by kernel_rfl)
theorem glob5 : Tryz.prog.globalNamed "internal/strconv.uint64pow10" = some 5 := by kernel_rfl
theorem glob5t : (Tryz.prog.globals[5]?).map (·.type) = some 266 := by kernel_rfl
theorem tab_of_laid {W : World} (h : laidMet Tryz.prog Rows.logsCodesRow.laid W) : Tab10 W := by
  have e : (Rows.laid_internal_strconv_uint64pow10 : DataW Unit) = Lib.tabData .u64 Lib.pow10Tab := by kernel_rfl
  obtain ⟨ps, ⟨_, _, _, _, _, _, _, _, _, _, ⟨_, _, _, _, _, _, _, _, _, _, ⟨g', t', cs, fuel, p, q, hg', ht', hvar, hd, _, _⟩, _⟩, _⟩, _⟩ := h
  obtain rfl := Option.some.inj (glob5.symm.trans hg')
  obtain rfl := Option.some.inj (glob5t.symm.trans ht')
  unfold Tab10 Lib.TabIs
  rw [hvar, ← Lib.cells_of_tab (t := 266) (e := 214) (n := 20) (k := .u64) (zs := Lib.pow10Tab) Tryz.underlying266 Tryz.underlying214 (by kernel_rfl) (by kernel_rfl) (by rw [← e]; exact hd)]
theorem tab_pos {w : World} (h : Tab10 w) : 0 < w.heap.size := by
  unfold Tab10 Lib.TabIs World.var? at h
  rw [glob5] at h
  simp only [Option.bind_some] at h
  rcases Nat.lt_or_ge 5 w.heap.size with q | q
  · omega
  · rw [Array.getElem?_eq_none q] at h; cases h

end Go.Proofs.YtjdcpnaocjddoaaGreatDoor
