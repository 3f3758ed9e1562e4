/-
  The contract of open. Conditions: none.
-/
import Derived.Test.YtmicjleiheoieaaA7
import Derived.Test.YtmicjleiheoieaaA4
import Derived.Test.YtmicjleiheoieaaRng
namespace Go.Proofs.Ytmicjleiheoieaa
open Go Go.RowKit
structure HVoy where
  v : Voy
  ao : Option Addr
  b : Nat
  o : Nat
  cap : Nat
instance : Inhabited HVoy := ⟨⟨default, default, default, default, default⟩⟩
def encHVoy (x : HVoy) : List Value := [.int .i64 x.v.st.lo, .int .i64 x.v.st.hi, .slice x.ao x.v.runs.length x.cap, .int .i64 x.v.len, .int .i64 x.v.wid]
def encStay (s : Stay) : List Value := [.int .i64 s.inn.lo, .int .i64 s.inn.hi, .int .i64 s.out.lo, .int .i64 s.out.hi, .bool s.there]
structure HSt where
  ss : List Stay
  ao : Option Addr
  g : Nat
  cap : Nat
instance : Inhabited HSt := ⟨⟨default, default, default, default⟩⟩
def encHSt (r : HSt) : List Value := [.slice r.ao r.ss.length r.cap]
/-- Rows of stays, each in a block of its own from base on and below lim, none of them g2. -/
def HRows (base g2 lim : Nat) (rows : List HSt) (w : World) : Prop := ∀ r ∈ rows, Sl encStay 5 w r.ao r.g 0 r.ss ∧ (0 < r.ss.length → base ≤ r.g ∧ r.g ≠ g2 ∧ r.g < lim)
theorem HRows.keep {base g2 lim : Nat} {rows : List HSt} {w w' : World} {S : Nat → Prop} (h : HRows base g2 lim rows w) (u : Upd S w w') (hS : ∀ i, base ≤ i → i ≠ g2 → i < lim → ¬ S i) : HRows base g2 lim rows w' := fun r hr => by
  obtain ⟨h1, h2⟩ := h r hr
  exact ⟨h1.keep u (fun hp => hS _ (h2 hp).1 (h2 hp).2.1 (h2 hp).2.2), h2⟩
theorem HRows.mono {base g2 lim lim' : Nat} {rows : List HSt} {w : World} (h : HRows base g2 lim rows w) (hl : lim ≤ lim') : HRows base g2 lim' rows w := fun r hr => ⟨(h r hr).1, fun hp => by have := (h r hr).2 hp; omega⟩
theorem HRows.snoc {base g2 g3 lim : Nat} {rows : List HSt} {w : World} (h : HRows base g2 lim rows w) (r : HSt) (lim' : Nat) (hl : lim ≤ lim') (hr : Sl encStay 5 w r.ao r.g 0 r.ss) (hb : 0 < r.ss.length → base ≤ r.g ∧ r.g ≠ g3 ∧ r.g < lim') (hg : g3 = g2 ∨ lim ≤ g3) : HRows base g3 lim' (rows ++ [r]) w := fun x hx => by
  rcases List.mem_append.1 hx with hx | hx
  · obtain ⟨h1, h2⟩ := h x hx
    exact ⟨h1, fun hp => by have := h2 hp; omega⟩
  · have : x = r := by simpa using hx
    subst this
    exact ⟨hr, hb⟩
def opE1 (v : Voy) : List Nar → Int
  | [] => 0
  | n :: ns => if thrE v n = 0 then opE1 v ns else thrE v n
def opE2 (ns : List Nar) : List Voy → Int
  | [] => 0
  | v :: l => if opE1 v ns = 0 then opE2 ns l else opE1 v ns
def OpenE (l : List Voy) (ns : List Nar) : Int := if 12 < l.length ∨ 20 < ns.length then 5 else if (l.any fun v => decide (chk v ≠ 0)) || (ns.any fun n => !okNar n) then 2 else opE2 ns l
theorem opE1_step {v : Voy} {ns : List Nar} {j : Nat} (h : j < ns.length) : opE1 v (ns.drop j) = if thrE v (nth ns j) = 0 then opE1 v (ns.drop (j + 1)) else thrE v (nth ns j) := by rw [drop_nth h]; rfl
theorem opE2_step {l : List HVoy} {ns : List Nar} {k : Nat} (h : k < l.length) : opE2 ns ((l.map HVoy.v).drop k) = if opE1 (nth l k).v ns = 0 then opE2 ns ((l.map HVoy.v).drop (k + 1)) else opE1 (nth l k).v ns := by
  rw [← List.map_drop, drop_nth h, List.map_cons, opE2, List.map_drop]
/-- Traffic in memory; all of it below lim. -/
structure Traf (lim t : Nat) (vs : List HVoy) (ns : List Nar) (rows : List HSt) (av an ar : Option Addr) (bv ov bn on br : Nat) (cv cn cr : Nat) (w : World) : Prop where
  blk : Blk w t 160 [.slice av vs.length cv, .slice an ns.length cn, .slice ar rows.length cr]
  vsl : Sl encHVoy 5 w av bv ov vs
  nsl : Sl encNar 4 w an bn on ns
  ssl : Sl encHSt 1 w ar br 0 rows
  rsl : ∀ r ∈ rows, Sl encStay 5 w r.ao r.g 0 r.ss
  tl : t < lim
  ll : lim ≤ w.heap.size
  vl : 0 < vs.length → bv < lim
  nl : 0 < ns.length → bn < lim
  sl : 0 < rows.length → br < lim
  rl : ∀ r ∈ rows, 0 < r.ss.length → r.g < lim
  few : vs.length ≤ 12 ∧ ns.length ≤ 20
  eq : rows.map (·.ss) = vs.map (fun h => ns.map (thrS h.v))
  ok : ∀ h ∈ vs, okVoy h.v = true
  okn : ∀ n ∈ ns, okNar n = true
theorem Traf.keep {lim t : Nat} {vs : List HVoy} {ns : List Nar} {rows : List HSt} {av an ar : Option Addr} {bv ov bn on br cv cn cr : Nat} {w w' : World} {S : Nat → Prop} (h : Traf lim t vs ns rows av an ar bv ov bn on br cv cn cr w) (u : Upd S w w') (hS : ∀ i, i < lim → ¬ S i) : Traf lim t vs ns rows av an ar bv ov bn on br cv cn cr w' :=
  { h with ll := Nat.le_trans h.ll u.size, blk := h.blk.keep u (hS _ h.tl), vsl := h.vsl.keep u (fun hp => hS _ (h.vl hp)), nsl := h.nsl.keep u (fun hp => hS _ (h.nl hp)), ssl := h.ssl.keep u (fun hp => hS _ (h.sl hp)), rsl := fun r hr => (h.rsl r hr).keep u (fun hp => hS _ (h.rl r hr hp)) }
/-- None of the traffic's blocks is among S. -/
structure TrafOff (S : Nat → Prop) (t : Nat) (vs : List HVoy) (ns : List Nar) (rows : List HSt) (bv bn br : Nat) : Prop where
  t : ¬ S t
  v : 0 < vs.length → ¬ S bv
  n : 0 < ns.length → ¬ S bn
  s : 0 < rows.length → ¬ S br
  r : ∀ r ∈ rows, 0 < r.ss.length → ¬ S r.g
section
variable {lim t : Nat} {vs : List HVoy} {ns : List Nar} {rows : List HSt} {av an ar : Option Addr} {bv ov bn on br cv cn cr : Nat} {w w' : World} {S : Nat → Prop}
theorem Traf.keepT (h : Traf lim t vs ns rows av an ar bv ov bn on br cv cn cr w) (u : Upd S w w') (hS : TrafOff S t vs ns rows bv bn br) : Traf lim t vs ns rows av an ar bv ov bn on br cv cn cr w' :=
  { h with ll := Nat.le_trans h.ll u.size, blk := h.blk.keep u hS.t, vsl := h.vsl.keep u hS.v, nsl := h.nsl.keep u hS.n, ssl := h.ssl.keep u hS.s, rsl := fun r hr => (h.rsl r hr).keep u (hS.r r hr) }
theorem Traf.off (h : Traf lim t vs ns rows av an ar bv ov bn on br cv cn cr w) (hS : ∀ i, i < lim → ¬ S i) : TrafOff S t vs ns rows bv bn br := ⟨hS _ h.tl, fun hp => hS _ (h.vl hp), fun hp => hS _ (h.nl hp), fun hp => hS _ (h.sl hp), fun r hr hp => hS _ (h.rl r hr hp)⟩
theorem Traf.offX {q : Nat} (h : Traf lim t vs ns rows av an ar bv ov bn on br cv cn cr w) (ho : TrafOff (fun i => i = q) t vs ns rows bv bn br) (hS : ∀ i, i < lim → i ≠ q → ¬ S i) : TrafOff S t vs ns rows bv bn br :=
  ⟨hS _ h.tl ho.t, fun hp => hS _ (h.vl hp) (ho.v hp), fun hp => hS _ (h.nl hp) (ho.n hp), fun hp => hS _ (h.sl hp) (ho.s hp), fun r hr hp => hS _ (h.rl r hr hp) (ho.r r hr hp)⟩
/-- A voyage that is held back. -/
def heldV (v : Voy) (h : Int) : Voy := ⟨⟨v.st.lo + h, v.st.hi + h⟩, v.runs, v.len, v.wid⟩
/-- Two voyages may meet in a narrow, and must not. -/
def barsV (a b : Voy) (n : Nar) : Bool := mayB (thrS a n) (thrS b n) && (n.single || decide (n.wid < a.wid + b.wid))
/-- The traffic's own blocks are from B on. -/
def FreshT (B t br : Nat) (rows : List HSt) : Prop := B ≤ t ∧ (0 < rows.length → B ≤ br) ∧ ∀ r ∈ rows, 0 < r.ss.length → B ≤ r.g
theorem Acc.ge {α : Type} {enc : α → List Value} {k : Nat} {e : TypeId} {base : Nat} {ao : Option Addr} {g cap : Nat} {xs : List α} (h : Acc enc k e base w ao g cap xs) (hp : 0 < xs.length) : base ≤ g := by
  rcases h.at_ with ⟨_, h1, _⟩ | ⟨_, h1, _⟩
  · subst h1; simp at hp
  · exact h1
theorem Acc.addr_snoc {α : Type} {enc : α → List Value} {k : Nat} {e : TypeId} {base : Nat} {w : World} {ao : Option Addr} {g cap : Nat} {xs : List α} {x : α} (h : Acc enc k e base w ao g cap (xs ++ [x])) : ao = some ⟨g, 0, none⟩ := by
  rcases h.at_ with ⟨_, h1, _⟩ | ⟨h1, _⟩
  · simp at h1
  · exact h1
end

theorem own23 : Own Try.prog 23 := ⟨Try.f23, Try.func23, by kernel_rfl, by kernel_rfl⟩
theorem own52 : Own Try.prog 52 := ⟨Try.f52, Try.func52, by kernel_rfl, by kernel_rfl⟩
theorem own54 : Own Try.prog 54 := ⟨Try.f54, Try.func54, by kernel_rfl, by kernel_rfl⟩
theorem own62 : Own Try.prog 62 := ⟨Try.f62, Try.func62, by kernel_rfl, by kernel_rfl⟩
theorem own63 : Own Try.prog 63 := ⟨Try.f63, Try.func63, by kernel_rfl, by kernel_rfl⟩
theorem own86 : Own Try.prog 86 := ⟨Try.f86, Try.func86, by kernel_rfl, by kernel_rfl⟩
theorem own88 : Own Try.prog 88 := ⟨Try.f88, Try.func88, by kernel_rfl, by kernel_rfl⟩
theorem own90 : Own Try.prog 90 := ⟨Try.f90, Try.func90, by kernel_rfl, by kernel_rfl⟩
theorem own98 : Own Try.prog 98 := ⟨Try.f98, Try.func98, by kernel_rfl, by kernel_rfl⟩
theorem own100 : Own Try.prog 100 := ⟨Try.f100, Try.func100, by kernel_rfl, by kernel_rfl⟩
theorem own101 : Own Try.prog 101 := ⟨Try.f101, Try.func101, by kernel_rfl, by kernel_rfl⟩
theorem own104 : Own Try.prog 104 := ⟨Try.f104, Try.func104, by kernel_rfl, by kernel_rfl⟩
theorem own105 : Own Try.prog 105 := ⟨Try.f105, Try.func105, by kernel_rfl, by kernel_rfl⟩
theorem own108 : Own Try.prog 108 := ⟨Try.f108, Try.func108, by kernel_rfl, by kernel_rfl⟩
theorem own116 : Own Try.prog 116 := ⟨Try.f116, Try.func116, by kernel_rfl, by kernel_rfl⟩
theorem own117 : Own Try.prog 117 := ⟨Try.f117, Try.func117, by kernel_rfl, by kernel_rfl⟩

theorem open1_c (x : HVoy) (w0 : World) (hs : Sl encRun 6 w0 x.ao x.b x.o x.v.runs) (hl : x.v.runs.length ≤ 1000000) :
    CallsV Try.prog 98 [.agg #[.int .i64 x.v.st.lo, .int .i64 x.v.st.hi, .slice x.ao ((x.v.runs).length) x.cap, .int .i64 x.v.len, .int .i64 x.v.wid]] w0 (fun v w' => v = .bool (decide (chk x.v ≠ 0)) ∧ Ext w0 w') := by
 have E0 := Upd.refl (fun _ => False) w0
 refine f_enter (N := 6) Try.func98 rfl rfl rfl ?_
 change WC _ _ _ _ _ _ [(0, .agg #[.int .i64 x.v.st.lo, .int .i64 x.v.st.hi, .slice x.ao ((x.v.runs).length) x.cap, .int .i64 x.v.len, .int .i64 x.v.wid])] _
 refine c_seq fun K1 hK1 => (c_region (t_box (cs := [.int .i64 x.v.st.lo, .int .i64 x.v.st.hi, .slice x.ao ((x.v.runs).length) x.cap, .int .i64 x.v.len, .int .i64 x.v.wid]) rfl rfl rfl rfl (fun bk2 w3 ebk2 sbk2 B4 u5 => ?_)))
 have zu5 := u5.size
 have E6 := E0.next u5 (fun _ _ h => h.elim)
 refine t_assign rfl rfl rfl (t_nil' (hK1 _ _ (c_seq fun K7 hK7 => (c_region (t_loadN (vs := [.int .i64 x.v.st.lo, .int .i64 x.v.st.hi, .slice x.ao ((x.v.runs).length) x.cap, .int .i64 x.v.len, .int .i64 x.v.wid]) Try.isAgg48 Try.sizeOf48 rfl rfl rfl (B4.at.sub 0 5) rfl (t_call (vs := [.agg #[.int .i64 x.v.st.lo, .int .i64 x.v.st.hi, .slice x.ao ((x.v.runs).length) x.cap, .int .i64 x.v.len, .int .i64 x.v.wid]]) own29 rfl rfl rfl rfl (Check_c x.v x.ao x.b x.o x.cap _ (hs.keep E6 (fun _ h => h)) (by omega)) (fun v8 w9 r11 => ?_)))))))
 obtain ⟨rfl, u10⟩ := r11
 have zu10 := u10.size
 have E12 := E6.next u10 (fun _ _ h => h.elim)
 refine t_cmp rfl rfl rfl rfl rfl (t_assign rfl rfl rfl (t_nil' (hK7 _ _ (c_ret (f_ret1 (v := .bool (decide ((chk x.v) ≠ 0))) Try.results98 rfl ?_)))))
 exact ⟨rfl, E12⟩

theorem open2_c (n : Nar) (w0 : World) :
    CallsV Try.prog 100 [.agg #[.int .i64 n.frm, .int .i64 n.to, .int .i64 n.wid, .bool n.single]] w0 (fun v w' => v = .bool (!okNar n) ∧ Ext w0 w') := by
 have E0 := Upd.refl (fun _ => False) w0
 refine f_enter (N := 6) Try.func100 rfl rfl rfl ?_
 change WC _ _ _ _ _ _ [(0, .agg #[.int .i64 n.frm, .int .i64 n.to, .int .i64 n.wid, .bool n.single])] _
 refine c_seq fun K1 hK1 => (c_region (t_box (cs := [.int .i64 n.frm, .int .i64 n.to, .int .i64 n.wid, .bool n.single]) rfl rfl rfl rfl (fun bk2 w3 ebk2 sbk2 B4 u5 => ?_)))
 have zu5 := u5.size
 have E6 := E0.next u5 (fun _ _ h => h.elim)
 refine t_assign rfl rfl rfl (t_nil' (hK1 _ _ (c_seq fun K7 hK7 => (c_region (t_loadN (vs := [.int .i64 n.frm, .int .i64 n.to, .int .i64 n.wid, .bool n.single]) Try.isAgg72 Try.sizeOf72 rfl rfl rfl (B4.at.sub 0 4) rfl (t_call (vs := [.agg #[.int .i64 n.frm, .int .i64 n.to, .int .i64 n.wid, .bool n.single]]) own76 rfl rfl rfl rfl (isNarrow_c n _) (fun v8 w9 r11 => ?_)))))))
 obtain ⟨rfl, u10⟩ := r11
 have zu10 := u10.size
 have E12 := E6.next u10 (fun _ _ h => h.elim)
 refine t_not rfl rfl rfl (t_assign rfl rfl rfl (t_nil' (hK7 _ _ (c_ret (f_ret1 (v := .bool (!(okNar n))) Try.results100 rfl ?_)))))
 exact ⟨rfl, E12⟩

theorem open_c (vs : List HVoy) (ns : List Nar) (av an : Option Addr) (bv ov bn on cv cn : Nat) (w0 : World) (hs : Sl encHVoy 5 w0 av bv ov vs) (hruns : ∀ x ∈ vs, Sl encRun 6 w0 x.ao x.b x.o x.v.runs) (hrl : ∀ x ∈ vs, x.v.runs.length ≤ 1000000) (hn : Sl encNar 4 w0 an bn on ns) (hvl : vs.length ≤ 1000000) (hnl : ns.length ≤ 1000000) :
    CallsV Try.prog 62 [.slice av vs.length cv, .slice an ns.length cn] w0 (fun v w' => ∃ p, v = .tuple #[p, .int .i64 (OpenE (vs.map HVoy.v) ns)] ∧ (OpenE (vs.map HVoy.v) ns = 0 → ∃ t rows lim ar br cr, p = .pointer (some ⟨t, 0, none⟩) ∧ Traf lim t vs ns rows av an ar bv ov bn on br cv cn cr w' ∧ FreshT w0.heap.size t br rows) ∧ (OpenE (vs.map HVoy.v) ns ≠ 0 → p = .pointer none) ∧ Ext w0 w') := by
 have E0 := Upd.refl (fun _ => False) w0
 refine f_enter (N := 70) Try.func62 rfl rfl rfl ?_
 change WC _ _ _ _ _ _ [(0, .slice av vs.length cv), (1, .slice an ns.length cn)] _
 refine c_seq fun K1 hK1 => (c_region (t_assign rfl rfl rfl (t_assign rfl rfl rfl (t_nil' (hK1 _ _ (c_seq fun K2 hK2 => (c_block (c_seq fun K3 hK3 => (c_region (t_move rfl rfl rfl (t_len Try.underlying34 rfl rfl rfl rfl (t_cmp rfl rfl rfl rfl rfl (t_move rfl rfl rfl (t_splitp 18 rfl (fun g18 => ?_) (fun g18 => ?_)))))))))))))))
 ·
  refine t_skip rfl rfl rfl (t_skip rfl rfl rfl (t_skip rfl rfl rfl (t_pick_t rfl rfl rfl rfl (t_assign rfl rfl rfl (t_nil' (hK3 _ _ (c_cond_t rfl (c_seq fun K4 hK4 => (c_region (t_assign rfl rfl rfl (t_assign rfl rfl rfl (t_nil' (hK4 _ _ (c_ret (f_ret2 (v1 := .pointer none) (v2 := .int .i64 5) Try.results62 rfl rfl ?_)))))))))))))))
  have hE : OpenE (vs.map HVoy.v) ns = 5 := by unfold OpenE; rw [if_pos (by rw [List.length_map]; omega)]
  have hnz : (5 : Int) ≠ 0 := by decide
  exact ⟨.pointer none, by rw [hE], (fun h => absurd (hE.symm.trans h) hnz), (fun _ => rfl), E0⟩
 ·
  refine t_move rfl rfl rfl (t_len Try.underlying35 rfl rfl rfl rfl (t_cmp rfl rfl rfl rfl rfl (t_pick_f rfl rfl rfl rfl (t_assign rfl rfl rfl (t_nil' (hK3 _ _ (c_condp rfl (fun g14 => ?_) (fun g14 => ?_))))))))
  ·
   refine c_seq fun K5 hK5 => (c_region (t_assign rfl rfl rfl (t_assign rfl rfl rfl (t_nil' (hK5 _ _ (c_ret (f_ret2 (v1 := .pointer none) (v2 := .int .i64 5) Try.results62 rfl rfl ?_)))))))
   have hE : OpenE (vs.map HVoy.v) ns = 5 := by unfold OpenE; rw [if_pos (by rw [List.length_map]; omega)]
   have hnz : (5 : Int) ≠ 0 := by decide
   exact ⟨.pointer none, by rw [hE], (fun h => absurd (hE.symm.trans h) hnz), (fun _ => rfl), E0⟩
  ·
   refine c_seq fun K6 hK6 => (c_seq fun K7 hK7 => (c_region (t_move rfl rfl rfl (t_call (vs := [.slice av vs.length cv, .func (.func 98) #[] #[]]) own97 rfl rfl rfl rfl (containsV_c encHVoy (fun _ => rfl) (fun x => decide (chk x.v ≠ 0)) 98 [] vs av bv ov cv _ own98 (fun x hx w u => open1_c x w ((hruns x hx).keep (E0.trans u) (fun _ h => h)) (hrl x hx)) hs (by omega)) (fun v8 w9 r11 => ?_)))))
   obtain ⟨rfl, u10⟩ := r11
   have zu10 := u10.size
   have E12 := E0.next u10 (fun _ _ h => h.elim)
   refine t_assign rfl rfl rfl (t_nil' (hK7 _ _ (c_cond rfl (fun g23 => ?_) (fun g23 => ?_))))
   ·
    refine c_same 23 (v := .bool true) rfl (congrArg Value.bool g23) (c_skip (hK6 _ _ (c_cond_t rfl (c_seq fun K13 hK13 => (c_region (t_assign rfl rfl rfl (t_assign rfl rfl rfl (t_nil' (hK13 _ _ (c_ret (f_ret2 (v1 := .pointer none) (v2 := .int .i64 2) Try.results62 rfl rfl ?_)))))))))))
    have hE : OpenE (vs.map HVoy.v) ns = 2 := by unfold OpenE; rw [if_neg (by rw [List.length_map]; omega), List.any_map]; simp_all [Function.comp_def]
    have hnz : (2 : Int) ≠ 0 := by decide
    exact ⟨.pointer none, by rw [hE], (fun h => absurd (hE.symm.trans h) hnz), (fun _ => rfl), E12⟩
   ·
    have g23a := g23
    refine c_same 23 (v := .bool false) rfl (congrArg Value.bool g23) (c_region (t_move rfl rfl rfl (t_call (vs := [.slice an ns.length cn, .func (.func 100) #[] #[]]) own99 rfl rfl rfl rfl (containsR_c encNar (fun _ => rfl) (fun n => !okNar n) 100 [] ns an bn on cn _ own100 (fun x hx w u => open2_c x w) (hn.keep E12 (fun _ h => h)) (by omega)) (fun v14 w15 r17 => ?_))))
    obtain ⟨rfl, u16⟩ := r17
    have zu16 := u16.size
    have E18 := E12.next u16 (fun _ _ h => h.elim)
    refine t_assign rfl rfl rfl (t_nil' (hK6 _ _ (c_cond rfl (fun g23 => ?_) (fun g23 => ?_))))
    ·
     refine c_same 23 (v := .bool true) rfl (congrArg Value.bool g23) (c_seq fun K19 hK19 => (c_region (t_assign rfl rfl rfl (t_assign rfl rfl rfl (t_nil' (hK19 _ _ (c_ret (f_ret2 (v1 := .pointer none) (v2 := .int .i64 2) Try.results62 rfl rfl ?_))))))))
     have hE : OpenE (vs.map HVoy.v) ns = 2 := by unfold OpenE; rw [if_neg (by rw [List.length_map]; omega), List.any_map]; simp_all [Function.comp_def]
     have hnz : (2 : Int) ≠ 0 := by decide
     exact ⟨.pointer none, by rw [hE], (fun h => absurd (hE.symm.trans h) hnz), (fun _ => rfl), E18⟩
    ·
     have g23b := g23
     refine c_same 23 (v := .bool false) rfl (congrArg Value.bool g23) (c_skip (hK2 _ _ (c_seq fun K20 hK20 => (c_region ?_))))
     have hany1 : (vs.any fun x => decide (chk x.v ≠ 0)) = false := g23a
     have hokv : ∀ x ∈ vs, okVoy x.v = true := fun x hx => by have := List.any_eq_false.1 hany1 x hx; exact okVoy_of (by simpa using this)
     have hokn : ∀ n ∈ ns, okNar n = true := fun n hh => by have := List.any_eq_false.1 g23b n hh; simpa using this
     have hE0 : OpenE (vs.map HVoy.v) ns = opE2 ns (vs.map HVoy.v) := by unfold OpenE; rw [if_neg (by rw [List.length_map]; omega), List.any_map, show (vs.any ((fun v => decide (chk v ≠ 0)) ∘ fun x => x.v)) = false from hany1, g23b]; rfl
     refine t_move rfl rfl rfl (t_move rfl rfl rfl (t_build (ps := [(0, .slice av vs.length cv), (1, .slice an ns.length cn)]) (v := .agg #[.slice av vs.length cv, .slice an ns.length cn, .slice none 0 0]) rfl rfl ⟨rfl, rfl⟩ (fun w => by kernel_rfl) (t_box (cs := [.slice av vs.length cv, .slice an ns.length cn, .slice none 0 0]) rfl rfl rfl rfl (fun bk21 w22 ebk21 sbk21 B23 u24 => ?_))))
     have zu24 := u24.size
     have E25 := E18.next u24 (fun _ _ h => h.elim)
     refine t_assign rfl rfl rfl (t_nil' (hK20 _ _ (c_seq fun K26 hK26 => (c_seq fun K27 hK27 => (c_region (t_move rfl rfl rfl (t_len Try.underlying34 rfl rfl rfl rfl (t_move rfl rfl rfl (t_nil' (hK27 _ _ (c_block (c_loop (γ := Nat × Option Addr × Nat × Nat × List HSt) (fun gg => [(1, .slice an ns.length cn), (6, .pointer (some ⟨bk21, 0, none⟩)), (32, .slice av vs.length cv), (33, .int .i64 (vs.length : Int)), (34, .int .i64 (gg.1 : Int))]) (fun gg w => Upd (fun i => i = bk21) w22 w ∧ Blk w bk21 160 [.slice av vs.length cv, .slice an ns.length cn, .slice gg.2.1 gg.2.2.2.2.length gg.2.2.2.1] ∧ (gg.1 ≤ vs.length) ∧ (opE2 ns (vs.map HVoy.v) = opE2 ns ((vs.map HVoy.v).drop gg.1)) ∧ (gg.2.2.2.2.map (·.ss) = (vs.take gg.1).map (fun h => ns.map (thrS h.v))) ∧ (Acc encHSt 1 157 w22.heap.size w gg.2.1 gg.2.2.1 gg.2.2.2.1 gg.2.2.2.2) ∧ (HRows w22.heap.size gg.2.2.1 w.heap.size gg.2.2.2.2 w) ∧ (gg.2.2.2.2.length = gg.1)) (fun gg => vs.length - gg.1) (0, none, 0, 0, []) ⟨rfl, rfl, rfl, rfl, rfl, trivial⟩ ⟨Upd.refl _ _, B23, (Nat.zero_le _), rfl, rfl, (Acc.nil _ _ _ _ _ (by omega) (Nat.le_refl _)), (fun r hr => by cases hr), rfl⟩ ?_))))))))))))
     intro gg w29 hW K28 hK28
     obtain ⟨k, ao2, g2, c2, rows⟩ := gg
     change WC _ _ _ _ _ _ [(1, .slice an ns.length cn), (6, .pointer (some ⟨bk21, 0, none⟩)), (32, .slice av vs.length cv), (33, .int .i64 (vs.length : Int)), (34, .int .i64 (k : Int))] _
     change Upd (fun i => i = bk21) w22 w29 ∧ Blk w29 bk21 160 [.slice av vs.length cv, .slice an ns.length cn, .slice ao2 rows.length c2] ∧ (k ≤ vs.length) ∧ (opE2 ns (vs.map HVoy.v) = opE2 ns ((vs.map HVoy.v).drop k)) ∧ (rows.map (·.ss) = (vs.take k).map (fun h => ns.map (thrS h.v))) ∧ (Acc encHSt 1 157 w22.heap.size w29 ao2 g2 c2 rows) ∧ (HRows w22.heap.size g2 w29.heap.size rows w29) ∧ (rows.length = k) at hW
     obtain ⟨u30, I31, I32, I33, I34, I35, I36, I37⟩ := hW
     have zu30 := u30.size
     have E38 := E25.next u30 (fun i hi (h : i = bk21) => show False by first | omega | assumption)
     have hk := I32; clear I32
     have hgo := I33; clear I33
     have hmap := I34; clear I34
     have hacc := I35; clear I35
     have hrows := I36; clear I36
     have hrl2 := I37; clear I37
     have lt_g2 := hacc.lt
     refine c_seq fun K39 hK39 => (c_region (t_cmp rfl rfl rfl rfl rfl (t_nil' (hK39 _ _ (c_seq fun K40 hK40 => (c_condp rfl (fun g35 => ?_) (fun g35 => ?_)))))))
     ·
      refine c_skip (hK40 _ _ (c_seq fun K41 hK41 => (c_block (c_seq fun K42 hK42 => (c_region ?_)))))
      have i43 : k < vs.length := (by omega)
      refine t_index (j := k) Try.underlying34 Try.sizeOf48 rfl rfl rfl rfl ((hs.keep E38 (fun _ h => h)).addr (by omega)) rfl i43 (t_loadN (vs := [.int .i64 ((nth vs k).v.st.lo), .int .i64 ((nth vs k).v.st.hi), .slice ((nth vs k).ao) (((nth vs k).v.runs).length) ((nth vs k).cap), .int .i64 ((nth vs k).v.len), .int .i64 ((nth vs k).v.wid)]) Try.isAgg48 Try.sizeOf48 rfl rfl rfl (((hs.keep E38 (fun _ h => h)).at_ k (by omega)).sub 0 5) rfl (t_alloc (cs := [.int .i64 0, .int .i64 0, .slice none 0 0, .int .i64 0, .int .i64 0]) Try.zeroValue48 rfl rfl rfl (fun bk44 w45 ebk44 sbk44 B46 u47 => ?_)))
      have zu47 := u47.size
      have E48 := E38.next u47 (fun _ _ h => h.elim)
      refine t_store (vs := [.int .i64 ((nth vs k).v.st.lo), .int .i64 ((nth vs k).v.st.hi), .slice ((nth vs k).ao) (((nth vs k).v.runs).length) ((nth vs k).cap), .int .i64 ((nth vs k).v.len), .int .i64 ((nth vs k).v.wid)]) Try.sizeOf48 rfl rfl rfl B46 rfl rfl (Nat.le_of_ble_eq_true rfl) (by simp [Value.oneCell']) (fun w49 sw49 B51 u50 => ?_)
      have zu50 := u50.size
      have E52 := E48.next u50 (fun i hi (h : i = bk44) => show False by first | omega | assumption)
      have B51 : Blk w49 bk44 48 [.int .i64 ((nth vs k).v.st.lo), .int .i64 ((nth vs k).v.st.hi), .slice ((nth vs k).ao) (((nth vs k).v.runs).length) ((nth vs k).cap), .int .i64 ((nth vs k).v.len), .int .i64 ((nth vs k).v.wid)] := B51
      refine t_nil' (hK42 _ _ (c_seq fun K53 hK53 => (c_region (t_assign rfl rfl rfl (t_nil' (hK53 _ _ (c_seq fun K54 hK54 => (c_seq fun K55 hK55 => (c_region (t_move rfl rfl rfl (t_len Try.underlying35 rfl rfl rfl rfl (t_move rfl rfl rfl (t_nil' (hK55 _ _ (c_block (c_loop (γ := Nat × Option Addr × Nat × Nat × List Stay) (fun gg => [(1, .slice an ns.length cn), (6, .pointer (some ⟨bk21, 0, none⟩)), (8, .pointer (some ⟨bk44, 0, none⟩)), (9, .slice gg.2.1 gg.2.2.2.2.length gg.2.2.2.1), (32, .slice av vs.length cv), (33, .int .i64 (vs.length : Int)), (34, .int .i64 (k : Int)), (38, .slice an ns.length cn), (39, .int .i64 (ns.length : Int)), (40, .int .i64 (gg.1 : Int))]) (fun gg w => Upd (fun _ => False) w49 w ∧ (gg.1 ≤ ns.length) ∧ (opE1 (nth vs k).v ns = opE1 (nth vs k).v (ns.drop gg.1)) ∧ (gg.2.2.2.2 = (ns.take gg.1).map (thrS (nth vs k).v)) ∧ (Acc encStay 5 141 w49.heap.size w gg.2.1 gg.2.2.1 gg.2.2.2.1 gg.2.2.2.2) ∧ (gg.2.2.2.2.length = gg.1)) (fun gg => ns.length - gg.1) (0, none, 0, 0, []) ⟨rfl, rfl, rfl, rfl, rfl, rfl, rfl, rfl, rfl, rfl, trivial⟩ ⟨Upd.refl _ _, (Nat.zero_le _), rfl, rfl, (Acc.nil _ _ _ _ _ (by omega) (Nat.le_refl _)), rfl⟩ ?_))))))))))))))))
      intro gg w57 hW K56 hK56
      obtain ⟨j, ao3, g3, c3, ss⟩ := gg
      change WC _ _ _ _ _ _ [(1, .slice an ns.length cn), (6, .pointer (some ⟨bk21, 0, none⟩)), (8, .pointer (some ⟨bk44, 0, none⟩)), (9, .slice ao3 ss.length c3), (32, .slice av vs.length cv), (33, .int .i64 (vs.length : Int)), (34, .int .i64 (k : Int)), (38, .slice an ns.length cn), (39, .int .i64 (ns.length : Int)), (40, .int .i64 (j : Int))] _
      change Upd (fun _ => False) w49 w57 ∧ (j ≤ ns.length) ∧ (opE1 (nth vs k).v ns = opE1 (nth vs k).v (ns.drop j)) ∧ (ss = (ns.take j).map (thrS (nth vs k).v)) ∧ (Acc encStay 5 141 w49.heap.size w57 ao3 g3 c3 ss) ∧ (ss.length = j) at hW
      obtain ⟨u58, I59, I60, I61, I62, I63⟩ := hW
      have zu58 := u58.size
      have E64 := E52.next u58 (fun _ _ h => h.elim)
      have hj := I59; clear I59
      have hin := I60; clear I60
      have hss := I61; clear I61
      have hacc3 := I62; clear I62
      have hsl3 := I63; clear I63
      have lt_g3 := hacc3.lt
      refine c_seq fun K65 hK65 => (c_region (t_cmp rfl rfl rfl rfl rfl (t_nil' (hK65 _ _ (c_seq fun K66 hK66 => (c_condp rfl (fun g41 => ?_) (fun g41 => ?_)))))))
      ·
       refine c_skip (hK66 _ _ (c_seq fun K67 hK67 => (c_block (c_seq fun K68 hK68 => (c_region ?_)))))
       have i69 : j < ns.length := (by omega)
       refine t_index (j := j) Try.underlying35 Try.sizeOf72 rfl rfl rfl rfl ((hn.keep E64 (fun _ h => h)).addr (by omega)) rfl i69 (t_loadN (vs := [.int .i64 ((nth ns j).frm), .int .i64 ((nth ns j).to), .int .i64 ((nth ns j).wid), .bool ((nth ns j).single)]) Try.isAgg72 Try.sizeOf72 rfl rfl rfl (((hn.keep E64 (fun _ h => h)).at_ j (by omega)).sub 0 4) rfl (t_alloc (cs := [.int .i64 0, .int .i64 0, .int .i64 0, .bool false]) Try.zeroValue72 rfl rfl rfl (fun bk70 w71 ebk70 sbk70 B72 u73 => ?_)))
       have zu73 := u73.size
       have E74 := E64.next u73 (fun _ _ h => h.elim)
       refine t_store (vs := [.int .i64 ((nth ns j).frm), .int .i64 ((nth ns j).to), .int .i64 ((nth ns j).wid), .bool ((nth ns j).single)]) Try.sizeOf72 rfl rfl rfl B72 rfl rfl (Nat.le_of_ble_eq_true rfl) (by simp [Value.oneCell']) (fun w75 sw75 B77 u76 => ?_)
       have zu76 := u76.size
       have E78 := E74.next u76 (fun i hi (h : i = bk70) => show False by first | omega | assumption)
       have B77 : Blk w75 bk70 72 [.int .i64 ((nth ns j).frm), .int .i64 ((nth ns j).to), .int .i64 ((nth ns j).wid), .bool ((nth ns j).single)] := B77
       refine t_nil' (hK68 _ _ (c_seq fun K79 hK79 => (c_region ?_)))
       have B80 := (((B51.keep u58 (fun h => h)).keep u73 (fun h => h)).keep u76 (show ¬ (bk44 = bk70) by first | omega | assumption))
       refine t_loadN (vs := [.int .i64 ((nth vs k).v.st.lo), .int .i64 ((nth vs k).v.st.hi), .slice ((nth vs k).ao) (((nth vs k).v.runs).length) ((nth vs k).cap), .int .i64 ((nth vs k).v.len), .int .i64 ((nth vs k).v.wid)]) Try.isAgg48 Try.sizeOf48 rfl rfl rfl (B80.at.sub 0 5) rfl (t_loadN (vs := [.int .i64 ((nth ns j).frm), .int .i64 ((nth ns j).to), .int .i64 ((nth ns j).wid), .bool ((nth ns j).single)]) Try.isAgg72 Try.sizeOf72 rfl rfl rfl (B77.at.sub 0 4) rfl (t_call (vs := [.agg #[.int .i64 ((nth vs k).v.st.lo), .int .i64 ((nth vs k).v.st.hi), .slice ((nth vs k).ao) (((nth vs k).v.runs).length) ((nth vs k).cap), .int .i64 ((nth vs k).v.len), .int .i64 ((nth vs k).v.wid)], .agg #[.int .i64 ((nth ns j).frm), .int .i64 ((nth ns j).to), .int .i64 ((nth ns j).wid), .bool ((nth ns j).single)]]) own77 rfl rfl rfl rfl (through_c (nth vs k).v (nth vs k).ao (nth vs k).b (nth vs k).o (nth vs k).cap (nth ns j) _ ((hruns (nth vs k) (nth_mem (by omega))).keep E78 (fun _ h => h)) (okVoy_rng (hokv (nth vs k) (nth_mem (by omega)))) (okNar_rng (hokn _ (nth_mem (by omega))))) (fun v81 w82 r84 => ?_)))
       obtain ⟨rfl, u83⟩ := r84
       have zu83 := u83.size
       have E85 := E78.next u83 (fun _ _ h => h.elim)
       refine t_move rfl rfl rfl (t_extract (vs := [.agg #[.int .i64 ((thrS (nth vs k).v (nth ns j)).inn.lo), .int .i64 ((thrS (nth vs k).v (nth ns j)).inn.hi), .int .i64 ((thrS (nth vs k).v (nth ns j)).out.lo), .int .i64 ((thrS (nth vs k).v (nth ns j)).out.hi), .bool ((thrS (nth vs k).v (nth ns j)).there)], .int .i64 (thrE (nth vs k).v (nth ns j))]) rfl rfl rfl rfl (t_extract (vs := [.agg #[.int .i64 ((thrS (nth vs k).v (nth ns j)).inn.lo), .int .i64 ((thrS (nth vs k).v (nth ns j)).inn.hi), .int .i64 ((thrS (nth vs k).v (nth ns j)).out.lo), .int .i64 ((thrS (nth vs k).v (nth ns j)).out.hi), .bool ((thrS (nth vs k).v (nth ns j)).there)], .int .i64 (thrE (nth vs k).v (nth ns j))]) rfl rfl rfl rfl (t_alloc (cs := [.int .i64 0, .int .i64 0, .int .i64 0, .int .i64 0, .bool false]) Try.zeroValue141 rfl rfl rfl (fun bk86 w87 ebk86 sbk86 B88 u89 => ?_))))
       have zu89 := u89.size
       have E90 := E85.next u89 (fun _ _ h => h.elim)
       refine t_store (vs := [.int .i64 ((thrS (nth vs k).v (nth ns j)).inn.lo), .int .i64 ((thrS (nth vs k).v (nth ns j)).inn.hi), .int .i64 ((thrS (nth vs k).v (nth ns j)).out.lo), .int .i64 ((thrS (nth vs k).v (nth ns j)).out.hi), .bool ((thrS (nth vs k).v (nth ns j)).there)]) Try.sizeOf141 rfl rfl rfl B88 rfl rfl (Nat.le_of_ble_eq_true rfl) (by simp [Value.oneCell']) (fun w91 sw91 B93 u92 => ?_)
       have zu92 := u92.size
       have E94 := E90.next u92 (fun i hi (h : i = bk86) => show False by first | omega | assumption)
       have B93 : Blk w91 bk86 141 [.int .i64 ((thrS (nth vs k).v (nth ns j)).inn.lo), .int .i64 ((thrS (nth vs k).v (nth ns j)).inn.hi), .int .i64 ((thrS (nth vs k).v (nth ns j)).out.lo), .int .i64 ((thrS (nth vs k).v (nth ns j)).out.hi), .bool ((thrS (nth vs k).v (nth ns j)).there)] := B93
       refine t_assign rfl rfl rfl (t_nil' (hK79 _ _ (c_seq fun K95 hK95 => (c_seq fun K96 hK96 => (c_region (t_move rfl rfl rfl (t_cmp rfl rfl rfl rfl rfl (t_nil' (hK96 _ _ (c_condp rfl (fun g51 => ?_) (fun g51 => ?_)))))))))))
       ·
        refine c_seq fun K97 hK97 => (c_region (t_move rfl rfl rfl (t_assign rfl rfl rfl (t_assign rfl rfl rfl (t_nil' (hK97 _ _ (c_ret (f_ret2 (v1 := .pointer none) (v2 := .int .i64 (thrE (nth vs k).v (nth ns j))) Try.results62 rfl rfl ?_))))))))
        have hE : OpenE (vs.map HVoy.v) ns = thrE (nth vs k).v (nth ns j) := by rw [hE0, hgo, opE2_step (by omega), hin, opE1_step (by omega), if_neg g51, if_neg g51]
        have hnz := g51
        exact ⟨.pointer none, by rw [hE], (fun h => absurd (hE.symm.trans h) hnz), (fun _ => rfl), E94⟩
       ·
        refine c_skip (hK95 _ _ (c_region (t_move rfl rfl rfl (t_loadN (vs := [.int .i64 ((thrS (nth vs k).v (nth ns j)).inn.lo), .int .i64 ((thrS (nth vs k).v (nth ns j)).inn.hi), .int .i64 ((thrS (nth vs k).v (nth ns j)).out.lo), .int .i64 ((thrS (nth vs k).v (nth ns j)).out.hi), .bool ((thrS (nth vs k).v (nth ns j)).there)]) Try.isAgg141 Try.sizeOf141 rfl rfl rfl (B93.at.sub 0 5) rfl (t_bslice (ps := [(0, .agg #[.int .i64 ((thrS (nth vs k).v (nth ns j)).inn.lo), .int .i64 ((thrS (nth vs k).v (nth ns j)).inn.hi), .int .i64 ((thrS (nth vs k).v (nth ns j)).out.lo), .int .i64 ((thrS (nth vs k).v (nth ns j)).out.hi), .bool ((thrS (nth vs k).v (nth ns j)).there)])]) (cs := [.int .i64 ((thrS (nth vs k).v (nth ns j)).inn.lo), .int .i64 ((thrS (nth vs k).v (nth ns j)).inn.hi), .int .i64 ((thrS (nth vs k).v (nth ns j)).out.lo), .int .i64 ((thrS (nth vs k).v (nth ns j)).out.hi), .bool ((thrS (nth vs k).v (nth ns j)).there)]) (e := 141) rfl rfl ⟨rfl, rfl⟩ (fun w => by kernel_rfl) (fun bk98 w99 ebk98 sbk98 B100 u101 => ?_))))))
        have zu101 := u101.size
        have D103 := ((((((hacc3.keep u73 (fun _ h => h)).keep u76 (fun hb => show ¬ (g3 = bk70) by first | omega | assumption)).keep u83 (fun _ h => h)).keep u89 (fun _ h => h)).keep u92 (fun hb => show ¬ (g3 = bk86) by first | omega | assumption)).keep u101 (fun _ h => h))
        refine t_append (z := .agg #[.int .i64 0, .int .i64 0, .int .i64 0, .int .i64 0, .bool false]) (bytes := 40) (k := 5) (base := w49.heap.size) (thrS (nth vs k).v (nth ns j)) Try.underlying157 (by kernel_rfl) rfl (by decide) (fun _ => rfl) (by intro x; simp [encStay, Value.oneCell']) rfl rfl rfl rfl D103 B100 (by omega) (by omega) (by decide) (fun ao104 gb105 cp106 w107 A108 u109 gegb105 lngb105 => ?_)
        have zu109 := u109.size
        have lt_gb105 := A108.lt
        refine t_assign rfl rfl rfl (t_nil' (hK67 _ _ (c_region (t_ari rfl rfl rfl rfl rfl (by omega) (t_move rfl rfl rfl (t_nil' ?_))))))
        exact hK56 (j + 1, ao104, gb105, cp106, (ss ++ [(thrS (nth vs k).v (nth ns j))])) _ _ (by show ns.length - (j + 1) < ns.length - j; omega) ⟨rfl, rfl, rfl, rfl, rfl, rfl, rfl, rfl, rfl, rfl, trivial⟩ ⟨(((((((u58.next u73 (fun _ _ h => h.elim)).next u76 (fun i hi (h : i = bk70) => show False by first | omega | assumption)).next u83 (fun _ _ h => h.elim)).next u89 (fun _ _ h => h.elim)).next u92 (fun i hi (h : i = bk86) => show False by first | omega | assumption)).next u101 (fun _ _ h => h.elim)).next u109 (fun i hi (h : (i = g3 ∧ w49.heap.size ≤ i)) => show False by first | omega | assumption)), (by omega), (by rw [hin, opE1_step (by omega), if_pos (Decidable.not_not.1 g51)]), (by rw [hss, take_nth (by omega), List.map_append, List.map_singleton]), A108, (by show (ss ++ [_]).length = j + 1; simp [hsl3])⟩
      ·
       have hinner0 : opE1 (nth vs k).v ns = 0 := by rw [hin, List.drop_eq_nil_of_le (by omega)]; rfl
       have hssall : ss = ns.map (thrS (nth vs k).v) := by rw [hss, List.take_of_length_le (by omega)]
       refine c_exit (hK54 _ _ (c_region (t_move rfl rfl rfl (t_move rfl rfl rfl (t_nilchk rfl rfl rfl (t_field Try.underlying160 rfl Try.sizeOf158 (2) rfl rfl rfl rfl ?_))))))
       have B111 := (((I31.keep u47 (fun h => h)).keep u50 (show ¬ (bk21 = bk44) by first | omega | assumption)).keep u58 (fun h => h))
       refine t_load Try.isAgg158 rfl rfl rfl (B111.get rfl) (t_move rfl rfl rfl (t_bslice (ps := [(0, .slice ao3 ss.length c3)]) (cs := [.slice ao3 ss.length c3]) (e := 157) rfl rfl ⟨rfl, rfl⟩ (fun w => by kernel_rfl) (fun bk112 w113 ebk112 sbk112 B114 u115 => ?_)))
       have zu115 := u115.size
       have D117 := ((((hacc.keep u47 (fun _ h => h)).keep u50 (fun hb => show ¬ (g2 = bk44) by first | omega | assumption)).keep u58 (fun _ h => h)).keep u115 (fun _ h => h))
       have D118 := ((((hrows.keep u47 (fun _ _ _ _ h => h)).keep u50 (fun i h1 h2 h3 => show ¬ (i = bk44) by omega)).keep u58 (fun _ _ _ _ h => h)).keep u115 (fun _ _ _ _ h => h))
       have D119 := (hacc3.keep u115 (fun _ h => h))
       have hnewrow := D118
       have hnewsl := (D119.sl (fun _ => rfl))
       have hnewacc := D119
       have hrlt := D117
       have hg2lt := hrlt.lt
       have hg3lt := hnewacc.lt
       have hg3b : 0 < ss.length → w49.heap.size ≤ g3 := fun hp => by
         rcases hnewacc.at_ with ⟨_, h1, _⟩ | ⟨_, h1, _⟩
         · subst h1; simp at hp
         · exact h1
       refine t_append (z := .slice none 0 0) (bytes := 24) (k := 1) (base := w22.heap.size) (⟨ss, ao3, g3, c3⟩ : HSt) Try.underlying158 (by kernel_rfl) rfl (by decide) (fun _ => rfl) (by intro x; simp [encHSt, Value.oneCell']) rfl rfl rfl rfl D117 B114 (by omega) (by omega) (by decide) (fun ao120 gb121 cp122 w123 A124 u125 gegb121 lngb121 => ?_)
       have zu125 := u125.size
       have lt_gb121 := A124.lt
       refine t_nilchk rfl rfl rfl (t_field Try.underlying160 rfl Try.sizeOf158 (2) rfl rfl rfl rfl ?_)
       have B127 := ((B111.keep u115 (fun h => h)).keep u125 (show ¬ ((bk21 = g2 ∧ w22.heap.size ≤ bk21)) by first | omega | assumption))
       refine t_store (vs := [.slice ao120 (((rows ++ [(⟨ss, ao3, g3, c3⟩ : HSt)])).length) cp122]) Try.sizeOf158 rfl rfl rfl B127 rfl rfl (Nat.le_of_ble_eq_true rfl) (by simp [Value.oneCell']) (fun w128 sw128 B130 u129 => ?_)
       have zu129 := u129.size
       have B130 : Blk w128 bk21 160 [.slice av vs.length cv, .slice an ns.length cn, .slice ao120 (((rows ++ [(⟨ss, ao3, g3, c3⟩ : HSt)])).length) cp122] := B130
       refine t_nil' (hK41 _ _ (c_region (t_ari rfl rfl rfl rfl rfl (by omega) (t_move rfl rfl rfl (t_nil' ?_)))))
       have D132 := (((hnewrow.keep u125 (fun i h1 h2 h3 => show ¬ ((i = g2 ∧ w22.heap.size ≤ i)) by omega)).snoc ⟨ss, ao3, g3, c3⟩ w123.heap.size (by omega) (hnewsl.keep u125 (fun hp => by have := hg3b hp; show ¬ ((g3 = g2 ∧ w22.heap.size ≤ g3)); omega)) (fun hp => by have := hg3b hp; show w22.heap.size ≤ g3 ∧ g3 ≠ gb121 ∧ g3 < w123.heap.size; omega) (g3 := gb121) (by omega)).keep u129 (fun i h1 h2 h3 => show ¬ (i = bk21) by omega))
       have D133 := (A124.keep u129 (fun hb => show ¬ (gb121 = bk21) by first | omega | assumption))
       exact hK28 (k + 1, ao120, gb121, cp122, (rows ++ [(⟨ss, ao3, g3, c3⟩ : HSt)])) _ _ (by show vs.length - (k + 1) < vs.length - k; omega) ⟨rfl, rfl, rfl, rfl, rfl, trivial⟩ ⟨((((((u30.next u47 (fun _ _ h => h.elim)).next u50 (fun i hi (h : i = bk44) => show i = bk21 by first | omega | assumption)).next u58 (fun _ _ h => h.elim)).next u115 (fun _ _ h => h.elim)).next u125 (fun i hi (h : (i = g2 ∧ w22.heap.size ≤ i)) => show i = bk21 by first | omega | assumption)).next u129 (fun i hi (h : i = bk21) => show i = bk21 by first | omega | assumption)), B130, (by omega), (by rw [hgo, opE2_step (by omega), if_pos hinner0]), (by rw [List.map_append, hmap, take_nth (by omega), List.map_append, List.map_singleton, List.map_singleton, hssall]), D133, (D132.mono (by omega)), (by show (rows ++ [_]).length = k + 1; simp [hrl2])⟩
     ·
      refine c_exit (hK26 _ _ (c_seq fun K134 hK134 => (c_region (t_move rfl rfl rfl (t_assign rfl rfl rfl (t_assign rfl rfl rfl (t_nil' (hK134 _ _ (c_ret (f_ret2 (v1 := .pointer (some ⟨bk21, 0, none⟩)) (v2 := .int .i64 0) Try.results62 rfl rfl ?_))))))))))
      have hE : OpenE (vs.map HVoy.v) ns = 0 := by rw [hE0, hgo, List.drop_eq_nil_of_le (by rw [List.length_map]; omega)]; rfl
      have hb := I31.lt
      have hsz := E38.size
      have ha := hacc.lt
      have ha0 := hacc
      exact ⟨_, by rw [hE], (fun _ => ⟨bk21, rows, _, ao2, g2, c2, rfl, { blk := I31, vsl := (hs.keep E38 (fun _ h => h)), nsl := (hn.keep E38 (fun _ h => h)), ssl := (hacc.sl (fun _ => rfl)), rsl := fun r hr => (hrows r hr).1, tl := hb, ll := Nat.le_refl _, vl := fun hp => Nat.lt_of_lt_of_le (hs.lt hp) hsz, nl := fun hp => Nat.lt_of_lt_of_le (hn.lt hp) hsz, sl := fun _ => ha, rl := fun r hr hp => ((hrows r hr).2 hp).2.2, few := by omega, eq := by rw [hmap, List.take_of_length_le (by omega)], ok := hokv, okn := hokn }, by omega, fun hp => Nat.le_trans (by omega) (ha0.ge hp), fun r hr hp => Nat.le_trans (by omega) ((hrows r hr).2 hp).1⟩), (fun h => absurd hE h), E38⟩

end Go.Proofs.Ytmicjleiheoieaa
