/-
  Part 7 of the proof: contracts and plain laws. Conditions: none.
-/
import Derived.Test.YtagmkfbbhfaceaaGreatDoorBK6
namespace Go.Proofs.YtagmkfbbhfaceaaGreatDoor
open Go Go.RowKit Go.Proofs.Tryz
set_option maxRecDepth 10000
theorem bytes_c (v : List Bk) (av : Option Addr) (bv ov cv : Nat) (w0 : World) (hv : Sl encBk 32 w0 av bv ov v) (hvl : v.length ≤ 30000) (hpos : 0 < w0.heap.size) :
    CallsV Tryz.prog 31 [.slice av v.length cv] w0 (fun v' w' => (∃ a9 g9 c9, v' = .slice a9 (bytesP v).length c9 ∧ Acc encY 1 5 w0.heap.size w' a9 g9 c9 (bytesP v)) ∧ Ext w0 w') := by
 refine f_n func31 ?_
 refine go ?_
 refine x_l4 (fun _ => False) [5, 6] (fun (i : Nat) (a1 : Option Addr) (g1 : Nat) (c1 : Nat) => [(2, .slice a1 ((bytesP (v.take i)).length) c1), (7, .int .i64 (i : Int))]) (fun i a1 g1 c1 w => (i ≤ v.length) ∧ (Acc encY 1 5 w0.heap.size w a1 g1 c1 (bytesP (v.take i)))) (fun i a1 g1 c1 => v.length - i) 0 none 0 0 ⟨(Nat.zero_le _), (Acc.nil _ _ _ _ _ hpos (by omega))⟩ ?_
 rintro i a1 g1 c1 w5 ⟨hi, hA⟩ u6 zu6 K4 hK4
 have E7 := Sc.mk ((Upd.refl (fun _ => False) w0).nx u6)
 have lt_g1 := hA.lt
 have hbl := bytesP_len (v.take i)
 rw [List.length_take, Nat.min_eq_left hi] at hbl
 have hel := (nth v i).h
 refine go ?_
 refine q_p (fun g8 => ?_) fun g8 => ?_
 ·
  refine go ?_
  refine g_i i (hv.keep E7.u (fun _ h => h)) (fun _ => ?_)
  refine t_ldY (l := (nth v i).l) isAgg111 sizeOf111 rfl rfl rfl ((hv.keep E7.u (fun _ h => h)).at_ i (by omega)) (Bk.h (nth v i)) (t_alloc (cs := (ys (List.replicate 32 (0 : UInt8)))) zeroValue111 (by kernel_rfl) rfl rfl (fun bk13 w14 ebk13 sbk13 B15 u16 => ?_))
  refine t_stY sizeOf111 rfl rfl rfl B15 (Bk.h (nth v i)) (by rw [ys_length]; exact (by first | omega | simp | assumption)) (fun w18 sw18 B20 u19 => ?_)
  refine go ?_
  refine t_arrS 0 32 underlying111 sizeOf5 rfl rfl rfl (.inr ⟨rfl, rfl⟩) (k := .i64) (m := 0) (x1 := .tmp 0) (.inr ⟨rfl, rfl⟩) (k' := .i64) (q := 0) (x2 := .tmp 0) (by omega) (by omega) (by omega) (t_same 12 (v := .slice (some ⟨bk13, 0 + 0 * 1, none⟩) ((nth v i).l.length) 32) rfl (by rw [(nth v i).h]) ?_)
  have D22 := ((hA.keep u16 (fun _ h => h)).keep u19 (fun hb => show ¬ (g1 = bk13) by first | omega | assumption))
  refine t_appendAll (enc := encY) (z := .int .u8 0) (bytes := 1) (k := 1) (base := w0.heap.size) (xs := (bytesP (v.take i))) (ys := (nth v i).l) underlying24 (by kernel_rfl) rfl (by decide) (fun _ => rfl) (by intro x; simp [encY, Value.oneCell']) rfl rfl rfl rfl D22 (SlY.own B20) (by omega) (by omega) (by omega) (by decide) (fun ao23 gb24 cp25 w26 A27 u28 gegb24 lngb24 => ?_)
  have zu28 := u28.size
  have lt_gb24 := A27.lt
  refine go ?_
  exact hK4 (i + 1) ao23 gb24 cp25 ⟨(by omega), (by rw [take_nth (by omega), bytesP_snoc]; exact A27)⟩ (hs := by exact ⟨(congrArg some (by rw [take_nth (by omega), bytesP_snoc])), rfl, rfl, rfl, trivial⟩)
 refine go ?_
 refine f_1 results31 ?_
 have hiv : v.take i = v := List.take_of_length_le (by omega)
 exact ⟨⟨a1, g1, c1, by rw [hiv], by rw [hiv] at hA; exact hA⟩, u_d⟩

/-- the log of entries -/
def logP (l : List Ent) : List UInt8 := if chkE l = 0 then bytesP (writeP l) else []
theorem writeP_len {l : List Ent} (h : chkE l = 0) : (writeP l).length ≤ 30000 ∧ 1 ≤ (writeP l).length := by
  have h1 := tapeP_len h
  have h2 := chkE_ok h
  have h3 := fsP_len (tapeP l)
  have h4 := nextF_len (fsP (tapeP l))
  have h5 := fillP_len (t := tapeP l)
  refine ⟨?_, h5.2⟩
  show (endF (nextF (fsP (tapeP l)))).length ≤ 30000
  unfold endF
  split
  · rw [List.length_append]; simp only [List.length_cons, List.length_nil]; omega
  · omega

theorem WriteLog_c (l : List Ent) (al : Option Addr) (bl ol cl : Nat) (w0 : World) (hl : Sl encEnt 6 w0 al bl ol l) (hll : l.length ≤ 1000000000) (hpos : 0 < w0.heap.size) :
    CallsV Tryz.prog 9 [.slice al l.length cl] w0 (fun v w' => (∃ a9 g9 c9, v = .tuple #[.slice a9 (logP l).length c9, .int .i64 (chkE l)] ∧ Acc encY 1 5 w0.heap.size w' a9 g9 c9 (logP l)) ∧ Ext w0 w') := by
 refine f_n func9 ?_
 refine go ?_
 refine x_c func29 rfl rfl (checkEntries_c l al bl ol cl _ hl (by omega)) ?_
 rintro _ w6 ⟨rfl, u7⟩ zu7
 refine go ?_
 refine q_p (fun g8 => ?_) fun g8 => ?_
 ·
  refine go ?_
  refine f_ret2 (v1 := .slice none 0 0) (v2 := .int .i64 (chkE l)) results9 rfl rfl ?_
  exact ⟨⟨none, 0, 0, by unfold logP; rw [if_neg (by omega)]; rfl, by unfold logP; rw [if_neg (by omega)]; exact Acc.nil _ _ _ _ _ hpos (by omega)⟩, u_d⟩
 have hok0 : chkE l = 0 := by omega
 have hwl := writeP_len hok0
 refine go ?_
 refine x_c func30 rfl rfl (write_c l al bl ol cl _ (hl.keep ((Upd.refl (fun _ => False) w0).nx u7) (fun _ h => h)) hok0) ?_
 rintro _ w15 ⟨⟨ar13, gr13, cr13, rfl, hFr13⟩, u16⟩ zu16
 have lt_gr13 := hFr13.lt
 refine x_c func31 rfl rfl (bytes_c (writeP l) ar13 gr13 0 cr13 _ (hFr13.sl encBk_len) (by omega) (by omega)) ?_
 rintro _ w21 ⟨⟨ay19, gy19, cy19, rfl, hFy19⟩, u22⟩ zu22
 have lt_gy19 := hFy19.lt
 refine go ?_
 refine f_ret2 (v1 := .slice ay19 ((bytesP (writeP l)).length) cy19) (v2 := .int .i64 0) results9 rfl rfl ?_
 have hlg : logP l = bytesP (writeP l) := by unfold logP; rw [if_pos hok0]
 exact ⟨⟨ay19, gy19, cy19, by rw [hlg, hok0], by rw [hlg]; exact Acc.lowP hFy19 (by rw [bytesP_len]; omega) (by omega)⟩, u_d⟩

end Go.Proofs.YtagmkfbbhfaceaaGreatDoor
namespace Go.Proofs.YtagmkfbbhfaceaaGreatDoor
open Go Go.RowKit
/-- A slice in memory, what it holds. -/
structure Hl (α : Type) where
  xs : List α
  ao : Option Addr
  g : Nat
  o : Nat
  cp : Nat
instance {α : Type} : Inhabited (Hl α) := ⟨⟨[], none, 0, 0, 0⟩⟩
theorem Acc.ge {α : Type} {enc : α → List Value} {k : Nat} {e : TypeId} {base : Nat} {w : World} {ao : Option Addr} {g cap : Nat} {xs : List α} (h : Acc enc k e base w ao g cap xs) (hp : 0 < xs.length) : base ≤ g := by
  rcases h.at_ with ⟨_, h1, _⟩ | ⟨_, h2, _⟩
  · subst h1; simp at hp
  · exact h2
section
variable {α : Type} [Inhabited α] {p : α → Bool} {l : List α} {j k : Nat}
/-- What is kept of the first elements. -/
def kp (p : α → Bool) (l : List α) (j : Nat) : List α := (l.take j).filter fun x => !p x
/-- What DeleteFunc's slice holds when j elements are looked at. -/
def dl (p : α → Bool) (l : List α) (j : Nat) : List α := kp p l j ++ l.drop (kp p l j).length
omit [Inhabited α] in
end
section
variable {P : Program} {ops : Array Oper} {Q : Exit → Act → World → Prop} {N : Nat} {ds : List Deferred} {rest : List Oper} {L : Slots} {w : World} {rd : Option Nat} {d : Nat} {ty : TypeId} {pos : String} {aft : Array Edge} {g : Option (Nat × Bool)}
end
end Go.Proofs.YtagmkfbbhfaceaaGreatDoor
namespace Go.Proofs.YtagmkfbbhfaceaaGreatDoor
open Go Go.RowKit Go.Proofs.Tryz
set_option maxRecDepth 10000
/-! ### states: cargo and hulls -/
structure Crg where
  b : Int
  t : Int
instance : Inhabited Crg := ⟨⟨0, 0⟩⟩
/-- A hull in memory. -/
structure HR where
  n : Int
  p : Int
  ao : Option Addr
  g : Nat
  o : Nat
  cp : Nat
  c : List Crg
instance : Inhabited HR := ⟨⟨0, 0, none, 0, 0, 0, []⟩⟩
def encCrg (x : Crg) : List Value := [.int .i64 x.b, .int .i64 x.t]
def encHR (x : HR) : List Value := [.int .i64 x.n, .int .i64 x.p, .slice x.ao x.c.length x.cp]
/-- The keys ascend. -/
def Asc {α : Type} [Inhabited α] (ky : α → Int) (l : List α) : Prop := ∀ i j, i < j → j < l.length → ky (nth l i) < ky (nth l j)
/-- Where a key belongs. -/
def posK {α : Type} (ky : α → Int) (n : Int) : List α → Nat
  | [] => 0
  | x :: l => if ky x < n then posK ky n l + 1 else 0
theorem posK_spec {α : Type} [Inhabited α] (ky : α → Int) (n : Int) : ∀ (l : List α), posK ky n l ≤ l.length ∧ (∀ j, j < posK ky n l → ky (nth l j) < n) ∧ (posK ky n l < l.length → n ≤ ky (nth l (posK ky n l)))
  | [] => ⟨Nat.le_refl _, fun j h => absurd h (Nat.not_lt_zero j), fun h => absurd h (Nat.not_lt_zero _)⟩
  | x :: l => by
    obtain ⟨h1, h2, h3⟩ := posK_spec ky n l
    unfold posK
    split
    · refine ⟨by simpa using h1, fun j hj => ?_, fun h => ?_⟩
      · cases j with
        | zero => assumption
        | succ j => exact h2 j (by omega)
      · exact h3 (by simpa using h)
    · refine ⟨Nat.zero_le _, fun j hj => absurd hj (Nat.not_lt_zero j), fun _ => ?_⟩
      show n ≤ ky x
      omega
theorem Asc.below {α : Type} [Inhabited α] {ky : α → Int} {l : List α} {n : Int} (h : Asc ky l) {k : Nat} (hk : k ≤ l.length) (hl : 0 < k → ky (nth l (k - 1)) < n) : ∀ j, j < k → ky (nth l j) < n := fun j hj => by
  have h1 := hl (by omega)
  rcases Nat.lt_or_ge j (k - 1) with q | q
  · have := h j (k - 1) q (by omega)
    omega
  · rwa [show j = k - 1 by omega]
/-- Whether a key is there. -/
def isK {α : Type} [Inhabited α] (ky : α → Int) (n : Int) (l : List α) : Bool := decide (posK ky n l < l.length ∧ ky (nth l (posK ky n l)) = n)
end Go.Proofs.YtagmkfbbhfaceaaGreatDoor
namespace Go.Proofs.YtagmkfbbhfaceaaGreatDoor
open Go Go.RowKit Go.Proofs.Tryz
set_option maxRecDepth 10000
end Go.Proofs.YtagmkfbbhfaceaaGreatDoor
namespace Go.Proofs.YtagmkfbbhfaceaaGreatDoor
open Go Go.RowKit Go.Proofs.Tryz
set_option maxRecDepth 10000
section
variable {P : Program} {ops : Array Oper} {Q : Exit → Act → World → Prop} {N : Nat} {ds : List Deferred} {rest : List Oper} {L : Slots} {w : World} {rd : Option Nat} {d : Nat} {ty : TypeId} {pos : String} {aft : Array Edge} {g : Option (Nat × Bool)}
theorem t_slice3 {t e : TypeId} {x lo hi mx : Operand} {ao : Option Addr} {n cap k : Nat} {kl kh km : IntKind} {ml mh mm : Int} (l h' m' : Nat) (hu : P.underlying t = some (.slice e)) (hsz : ∀ w, (sizeOf e).run P w = .ok k w)
    (hg : grd ops L g = true) (hN : Nat.blt d N = true) (hx : ev L x = some (.slice ao n cap)) (hlo : ev L lo = some (.int kl ml)) (hhi : ev L hi = some (.int kh mh)) (hmx : ev L mx = some (.int km mm)) (e1 : ml = l) (e2 : mh = h') (e3 : mm = m') (b1 : l ≤ h') (b2 : h' ≤ m') (b3 : m' ≤ cap)
    (h : WL rd P ops Q N ds rest ((d, .slice (subAddr ao m' l k) (h' - l) (m' - l)) :: L) w) : WL rd P ops Q N ds (⟨some d, .slice t x (some lo) (some hi) (some mx), ty, pos, aft, g⟩ :: rest) L w :=
  WL.value hg rfl hN (fun a hk => by
    subst e1 e2 e3
    simp [execOp, Instr.sliceAt, run_underlying hu, Instr.slice, Instr.sliceBounds, Instr.sliceBound, hk.ev hx, hk.ev hlo, hk.ev hhi, hk.ev hmx, asIntOf, b1, b2, b3, hsz, subAddr]) h
end
end Go.Proofs.YtagmkfbbhfaceaaGreatDoor
namespace Go.Proofs.YtagmkfbbhfaceaaGreatDoor
open Go Go.RowKit
theorem lay_get : ∀ (vs cs : List Value) (i q : Nat), i + vs.length ≤ cs.length → (lay cs i vs)[q]? = if i ≤ q ∧ q < i + vs.length then vs[q - i]? else cs[q]?
  | [], cs, i, q, _ => by rw [if_neg (by simp only [List.length_nil]; omega)]; rfl
  | v :: vs, cs, i, q, h => by
    have hl : i < cs.length := by simp at h; omega
    show (lay (cs.set i v) (i + 1) vs)[q]? = _
    rw [lay_get vs (cs.set i v) (i + 1) q (by simp at h ⊢; omega)]
    by_cases h1 : q = i
    · subst h1
      rw [if_neg (by omega), if_pos (by simp), List.getElem?_set_self hl]
      simp
    · by_cases h2 : i + 1 ≤ q ∧ q < i + 1 + vs.length
      · rw [if_pos h2, if_pos (by simp; omega), show q - i = (q - (i + 1)) + 1 by omega]
        rfl
      · rw [if_neg h2, if_neg (by simp; omega), List.getElem?_set_ne (by omega)]
/-- A block of the call's own whose first cells are the elements xs. -/
structure Wr {α : Type} [Inhabited α] (enc : α → List Value) (k : Nat) (e : TypeId) (w : World) (g : Nat) (xs : List α) : Prop where
  at_ : 0 < xs.length → ∃ cur : Array Value, w.heap[g]? = some (.cells cur e (0, 0)) ∧ xs.length * k ≤ cur.size ∧ ∀ i, i < xs.length → ∀ (r : Nat) (v : Value), (enc (nth xs i))[r]? = some v → cur[i * k + r]? = some v
section
variable {α : Type} [Inhabited α] {enc : α → List Value} {k : Nat} {e : TypeId} {w w' : World} {g : Nat} {xs : List α}
theorem Acc.wr {base : Nat} {ao : Option Addr} {cap : Nat} (h : Acc enc k e base w ao g cap xs) (hk : ∀ x, (enc x).length = k) : Wr enc k e w g xs := ⟨fun hp => by
  rcases h.at_ with ⟨_, h1, _⟩ | ⟨_, _, cur, hc, hl, _, hsz, htk⟩
  · subst h1; simp at hp
  · refine ⟨cur, hc, by rw [hsz]; exact Nat.mul_le_mul_right k hl, fun i hi r v hv => ?_⟩
    have h1 := flatMap_at hk xs i r v hi hv
    rw [← htk, List.getElem?_take] at h1
    split at h1
    · simpa using h1
    · cases h1⟩
theorem Wr.lt (h : Wr enc k e w g xs) (hp : 0 < xs.length) : g < w.heap.size := by
  obtain ⟨cur, hc, _⟩ := h.at_ hp
  exact (Array.getElem?_eq_some_iff.1 hc).1
theorem Wr.keep {S : Nat → Prop} (h : Wr enc k e w g xs) (u : Upd S w w') (hn : 0 < xs.length → ¬ S g) : Wr enc k e w' g xs := ⟨fun hp => by
  obtain ⟨cur, hc, hr⟩ := h.at_ hp
  exact ⟨cur, (u.block g (h.lt hp) (hn hp)).trans hc, hr⟩⟩
theorem Wr.sl {ao : Option Addr} (h : Wr enc k e w g xs) (ha : 0 < xs.length → ao = some ⟨g, 0, none⟩) : Sl enc k w ao g 0 xs :=
  ⟨ha, h.lt, fun i hi j v hv => by
    obtain ⟨cur, hc, hs, hr⟩ := h.at_ (by omega)
    have hB : Blk w g e cur.toList := by simpa [Blk] using hc
    rw [Nat.zero_add]
    exact hB.get (by simpa using hr i hi j v hv)⟩
end
section
variable {rd : Option Nat} {P : Program} {ops : Array Oper} {Q : Exit → Act → World → Prop} {N : Nat} {ds : List Deferred} {rest : List Oper} {L : Slots} {w : World}
variable {ty : TypeId} {pos : String} {aft : Array Edge} {gd : Option (Nat × Bool)}
/-- A quotient whose value is known. -/
theorem t_quoV {xt yt : TypeId} {x y : Operand} {d : Nat} {m n : Int} (q : Int) (hg : grd ops L gd = true) (hN : Nat.blt d N = true) (hx : ev L x = some (.int .i64 m)) (hy : ev L y = some (.int .i64 n)) (hn : n ≠ 0) (hq : m.tdiv n = q) (hr : -9223372036854775808 ≤ q ∧ q ≤ 9223372036854775807)
    (h : WL rd P ops Q N ds rest ((d, .int .i64 q) :: L) w) : WL rd P ops Q N ds (⟨some d, .binOp .quo xt x y yt, ty, pos, aft, gd⟩ :: rest) L w :=
  WL.value hg rfl hN (fun a ha => by
    have e1 := ha.ev hx
    have e2 := ha.ev hy
    have e3 : IntKind.i64.wrap (m.tdiv n) = q := by rw [hq]; exact IntWalk.i64_in _ hr
    simp [execOp, e1, e2, eqGuard, binOp, Op.intDiv, e3, hn]) h
end
end Go.Proofs.YtagmkfbbhfaceaaGreatDoor
namespace Go.Proofs.YtagmkfbbhfaceaaGreatDoor
open Go Go.RowKit
/-- A gathered slice, put together again from its elements. -/
theorem Acc.ofWr {α : Type} [Inhabited α] {enc : α → List Value} {k : Nat} {e : TypeId} {base : Nat} {w w' : World} {ao : Option Addr} {g cap : Nat} {xs ys : List α} (h : Acc enc k e base w ao g cap xs) (hk : ∀ x, (enc x).length = k) (hp : 0 < xs.length)
    (hw : Wr enc k e w' g ys) (hl : ys.length = xs.length) (hsz : ∀ cur : Array Value, w.heap[g]? = some (.cells cur e (0, 0)) → ∃ cur' : Array Value, w'.heap[g]? = some (.cells cur' e (0, 0)) ∧ cur'.size = cur.size) : Acc enc k e base w' ao g cap ys := by
  rcases h.at_ with ⟨_, h1, _⟩ | ⟨h1, h2, cur, h3, h4, h5, h6, _⟩
  · subst h1; simp at hp
  · obtain ⟨cur', hc, hs⟩ := hsz cur h3
    obtain ⟨cur2, hc2, hs2, hr⟩ := hw.at_ (by omega)
    rw [hc] at hc2
    injection hc2 with hc2
    injection hc2 with hc2
    subst hc2
    refine ⟨lt_of_block hc, .inr ⟨h1, h2, cur', hc, by omega, h5, by rw [hs, h6], ?_⟩⟩
    refine List.ext_getElem? fun q => ?_
    by_cases hq : q < ys.length * k
    · have hk0 : 0 < k := by
        rcases Nat.eq_zero_or_pos k with h | h
        · subst h; simp at hq
        · exact h
      have hi : q / k < ys.length := (Nat.div_lt_iff_lt_mul hk0).2 hq
      have hqr : q / k * k + q % k = q := by rw [Nat.mul_comm]; exact Nat.div_add_mod q k
      have hlt : q % k < (enc (nth ys (q / k))).length := by rw [hk]; exact Nat.mod_lt _ hk0
      have hv := List.getElem?_eq_getElem hlt
      have e1 := hr (q / k) hi (q % k) _ hv
      have e2 := flatMap_at hk ys (q / k) (q % k) _ hi hv
      rw [hqr] at e1 e2
      rw [List.getElem?_take, if_pos hq, e2]
      simpa using e1
    · rw [List.getElem?_eq_none (by rw [List.length_take]; omega), List.getElem?_eq_none (by rw [flatMap_len hk]; omega)]
theorem wr_set {α : Type} [Inhabited α] {enc : α → List Value} {k : Nat} {e : TypeId} {w w' : World} {g j o' off n : Nat} {xs : List α} {vs : List Value} {x' : α} {cur : List Value} (hk : ∀ x, (enc x).length = k) (hw : Wr enc k e w g xs) (hj : j < xs.length) (hB : Blk w g e cur) (hB' : Blk w' g e (lay cur off vs)) (hn : vs.length = n) (hl : o' + n ≤ k) (hx' : enc x' = lay (enc (nth xs j)) o' vs) (hoff : off = j * k + o') : Wr enc k e w' g (xs.set j x') := by
  subst hoff
  obtain ⟨cur2, hcur, hsz, hr⟩ := hw.at_ (by omega)
  have e1 : cur2 = cur.toArray := by
    have : w.heap[g]? = some (.cells cur.toArray e (0, 0)) := hB
    rw [hcur] at this
    injection this with this
    injection this with this
  subst e1
  have hjk : (j + 1) * k ≤ xs.length * k := Nat.mul_le_mul_right k hj
  rw [Nat.add_mul, Nat.one_mul] at hjk
  rw [List.size_toArray] at hsz
  have hle : j * k + o' + n ≤ cur.length := by omega
  refine ⟨fun hp => ⟨(lay cur (j * k + o') vs).toArray, hB', by rw [List.length_set, List.size_toArray, lay_length]; exact hsz, fun i hi r z hz => ?_⟩⟩
  rw [List.length_set] at hi
  rw [List.getElem?_toArray, lay_get _ _ _ _ (by rw [hn]; exact hle)]
  by_cases hij : i = j
  · subst hij
    rw [show nth (xs.set i x') i = x' by simp [nth, List.getD_eq_getElem?_getD, hi]] at hz
    rw [hx', lay_get _ _ _ _ (by rw [hn, hk]; exact hl)] at hz
    by_cases hc1 : o' ≤ r ∧ r < o' + vs.length
    · rw [if_pos hc1] at hz
      rw [if_pos (by omega), show i * k + r - (i * k + o') = r - o' by omega]; exact hz
    · rw [if_neg hc1] at hz
      rw [if_neg (by omega)]
      have := hr i hi r z hz
      simpa using this
  · rw [show nth (xs.set j x') i = nth xs i by simp [nth, List.getD_eq_getElem?_getD, List.getElem?_set_ne (Ne.symm hij)]] at hz
    have hrk : r < k := by
      have := (List.getElem?_eq_some_iff.1 hz).1
      rwa [hk] at this
    have := hr i hi r z hz
    rw [if_neg ?_]
    · simpa using this
    · intro hcc
      rcases Nat.lt_or_gt_of_ne hij with h1 | h1
      · have : (i + 1) * k ≤ j * k := Nat.mul_le_mul_right k h1
        rw [Nat.add_mul, Nat.one_mul] at this
        omega
      · have : (j + 1) * k ≤ i * k := Nat.mul_le_mul_right k h1
        rw [Nat.add_mul, Nat.one_mul] at this
        omega
section
variable {rd : Option Nat} {P : Program} {ops : Array Oper} {Q : Exit → Act → World → Prop} {N : Nat} {ds : List Deferred} {rest : List Oper} {L : Slots} {w : World}
variable {ty : TypeId} {pos : String} {aft : Array Edge} {gd : Option (Nat × Bool)}
/-- A store into an element of a gathered slice: the element is x'. -/
theorem t_storeA {α : Type} [Inhabited α] {enc : α → List Value} {k : Nat} {u e : TypeId} {x y : Operand} {base : Nat} {ao : Option Addr} {g cap j o' off n : Nat} {xs : List α} {vs : List Value} {v : Value} (x' : α) (hk : ∀ x, (enc x).length = k) (hs : ∀ w, (sizeOf u).run P w = .ok n w) (hg : grd ops L gd = true)
    (hx : ev L x = some (.pointer (some ⟨g, off, none⟩))) (hoff : off = j * k + o') (hy : ev L y = some v) (hw : Acc enc k e base w ao g cap xs) (hj : j < xs.length) (hc : v.cells = vs.toArray) (hn : vs.length = n) (hl : o' + n ≤ k) (hv : ∀ v ∈ vs, v.oneCell' = true) (hx' : enc x' = lay (enc (nth xs j)) o' vs)
    (h : ∀ w', Acc enc k e base w' ao g cap (xs.set j x') → Upd (· = g) w w' → WL rd P ops Q N ds rest L w') :
    WL rd P ops Q N ds (⟨none, .store u x y, ty, pos, aft, gd⟩ :: rest) L w := by
  have hwr := hw.wr hk
  obtain ⟨cur, hcur, hsz, hr⟩ := hwr.at_ (by omega)
  have hB : Blk w g e cur.toList := by simpa [Blk] using hcur
  have hjk : (j + 1) * k ≤ xs.length * k := Nat.mul_le_mul_right k hj
  rw [Nat.add_mul, Nat.one_mul] at hjk
  have hle : off + n ≤ cur.toList.length := by rw [Array.length_toList, hoff]; omega
  refine t_store (b := g) (t := e) hs hg hx hy hB hc hn hle hv fun w' hsize hB' hu => ?_
  refine h w' (hw.ofWr hk (by omega) (ys := xs.set j x') ?_ (by rw [List.length_set]) fun c2 hc2 => ?_) hu
  · exact wr_set hk hwr hj hB hB' hn hl hx' hoff
  · rw [hcur] at hc2
    injection hc2 with hc2
    injection hc2 with hc2
    subst hc2
    exact ⟨(lay cur.toList off vs).toArray, hB', by rw [List.size_toArray, lay_length, Array.length_toList]⟩
end
end Go.Proofs.YtagmkfbbhfaceaaGreatDoor
namespace Go.Proofs.YtagmkfbbhfaceaaGreatDoor
open Go Go.RowKit Go.Proofs.Tryz
set_option maxRecDepth 10000
/-- the tons of a bill, or of all for 0 -/
def tonP (bill : Int) : List Crg → Int
  | [] => 0
  | x :: l => (if bill = 0 ∨ x.b = bill then x.t else 0) + tonP bill l
theorem tonP_range {bill : Int} : ∀ {l : List Crg}, (∀ x ∈ l, 0 ≤ x.t ∧ x.t ≤ 1000000000000) → 0 ≤ tonP bill l ∧ tonP bill l ≤ 1000000000000 * (l.length : Int)
  | [], _ => by simp [tonP]
  | x :: l, h => by
    have h1 := tonP_range (bill := bill) (l := l) fun y hy => h y (List.mem_cons_of_mem _ hy)
    have h2 := h x (List.mem_cons_self ..)
    unfold tonP
    rw [List.length_cons]
    split <;> omega
/-- tons are booked in a list -/
def bookP (bill tons : Int) : List Crg → List Crg
  | [] => if tons = 0 then [] else [⟨bill, tons⟩]
  | x :: r => if x.b < bill then x :: bookP bill tons r else if x.b = bill then (if x.t + tons = 0 then r else ⟨bill, x.t + tons⟩ :: r) else if tons = 0 then x :: r else ⟨bill, tons⟩ :: x :: r
theorem isK_iff {α : Type} [Inhabited α] {ky : α → Int} {n : Int} {l : List α} : isK ky n l = true ↔ posK ky n l < l.length ∧ ky (nth l (posK ky n l)) = n := by unfold isK; rw [decide_eq_true_eq]
/-- A list of cargo in order. -/
def CgOk (T : Int) (l : List Crg) : Prop := Asc (fun x : Crg => x.b) l ∧ ∀ x ∈ l, (1 ≤ x.b ∧ x.b ≤ 9999) ∧ (1 ≤ x.t ∧ x.t ≤ T)
theorem Asc.len {α : Type} [Inhabited α] {ky : α → Int} {l : List α} {m : Int} (h : Asc ky l) (hr : ∀ x ∈ l, 1 ≤ ky x ∧ ky x ≤ m) (hm : 0 ≤ m) : (l.length : Int) ≤ m := by
  have h1 : ∀ i, i < l.length → (i : Int) + 1 ≤ ky (nth l i) := fun i => by
    induction i with
    | zero => intro hi; have := (hr _ (nth_mem hi)).1; omega
    | succ i ih => intro hi; have := ih (by omega); have := h i (i + 1) (by omega) hi; omega
  rcases Nat.eq_zero_or_pos l.length with e | e
  · omega
  · have h2 := h1 (l.length - 1) (by omega)
    have h3 := (hr _ (nth_mem (show l.length - 1 < l.length by omega))).2
    omega
theorem CgOk.len {T : Int} {l : List Crg} (h : CgOk T l) : l.length ≤ 9999 := by
  have := h.1.len (m := 9999) (fun x hx => (h.2 x hx).1) (by decide)
  omega
theorem ins_nth {α : Type} [Inhabited α] {l : List α} {k : Nat} (h : k ≤ l.length) (s : α) : nth (l.take k ++ s :: l.drop k) k = s ∧ (l.take k ++ s :: l.drop k).length = l.length + 1 := by
  have h1 : (l.take k).length = k := by rw [List.length_take]; omega
  refine ⟨?_, by rw [List.length_append, List.length_cons, h1, List.length_drop]; omega⟩
  unfold nth
  rw [List.getD_eq_getElem?_getD, List.getElem?_append_right (by omega), h1]
  simp
theorem nth_setE {α : Type} [Inhabited α] {l : List α} {k : Nat} (h : k < l.length) (s : α) : nth (l.set k s) k = s := by
  unfold nth; rw [List.getD_eq_getElem?_getD, List.getElem?_set_self h]; rfl
theorem set_same {α : Type} {cs : List α} {i : Nat} {v : α} (h : cs[i]? = some v) : cs.set i v = cs := by
  obtain ⟨h1, h2⟩ := List.getElem?_eq_some_iff.1 h
  rw [← h2, List.set_getElem_self]
end Go.Proofs.YtagmkfbbhfaceaaGreatDoor
namespace Go.Proofs.YtagmkfbbhfaceaaGreatDoor
open Go Go.RowKit
set_option maxRecDepth 10000
theorem Acc.own {α : Type} {enc : α → List Value} {k : Nat} {e : TypeId} {base : Nat} {w : World} {ao : Option Addr} {g cap : Nat} {xs : List α} (h : Acc enc k e base w ao g cap xs) (hb : base ≤ g) : ∃ cur : Array Value, w.heap[g]? = some (.cells cur e (0, 0)) := by
  rcases h.at_ with ⟨_, _, _, h1⟩ | ⟨_, _, cur, h3, _⟩
  · omega
  · exact ⟨cur, h3⟩
theorem mem_set {α : Type} [Inhabited α] {xs : List α} {i : Nat} {y h : α} (hh : h ∈ xs.set i y) : h = y ∨ ∃ j, j < xs.length ∧ j ≠ i ∧ h = nth xs j := by
  obtain ⟨j, hj, rfl⟩ := List.mem_iff_getElem.1 hh
  rw [List.length_set] at hj
  by_cases e : j = i
  · left; subst e; simp
  · right; exact ⟨j, hj, e, by rw [List.getElem_set_ne (Ne.symm e), nth_eq hj]⟩
theorem nth_setN {α : Type} [Inhabited α] {l : List α} {k j : Nat} (h : j ≠ k) (s : α) : nth (l.set k s) j = nth l j := by
  unfold nth; rw [List.getD_eq_getElem?_getD, List.getElem?_set_ne (Ne.symm h), List.getD_eq_getElem?_getD]
theorem nth_insL {α : Type} [Inhabited α] {l : List α} {k j : Nat} (h : k ≤ l.length) (hj : j < k) (s : α) : nth (l.take k ++ s :: l.drop k) j = nth l j := by
  unfold nth
  rw [List.getD_eq_getElem?_getD, List.getElem?_append_left (by rw [List.length_take]; omega), List.getElem?_take, if_pos hj, List.getD_eq_getElem?_getD]
theorem nth_insR {α : Type} [Inhabited α] {l : List α} {k j : Nat} (h : k ≤ l.length) (hj : k < j) (s : α) : nth (l.take k ++ s :: l.drop k) j = nth l (j - 1) := by
  unfold nth
  rw [List.getD_eq_getElem?_getD, List.getElem?_append_right (by rw [List.length_take]; omega), List.length_take, Nat.min_eq_left h, show j - k = (j - 1 - k) + 1 by omega, List.getElem?_cons_succ, List.getElem?_drop, List.getD_eq_getElem?_getD, show k + (j - 1 - k) = j - 1 by omega]
/-- A state in memory. -/
structure SG where
  m : Int
  rs : List HR
  ah : Option Addr
  gh : Nat
  ch : Nat
  ld : List Crg
  al : Option Addr
  gl : Nat
  cl : Nat
  un : List Crg
  au : Option Addr
  gu : Nat
  cu : Nat
  wk : Int
def SG.cells (V : SG) : List Value := [.int .i64 V.m, .slice V.ah V.rs.length V.ch, .slice V.al V.ld.length V.cl, .slice V.au V.un.length V.cu, .int .i64 V.wk]
structure SeaM (base sb : Nat) (w : World) (V : SG) : Prop where
  sge : base ≤ sb
  blk : Blk w sb 146 V.cells
  hacc : Acc encHR 3 70 base w V.ah V.gh V.ch V.rs
  cacc : ∀ r ∈ V.rs, r.o = 0 ∧ Acc encCrg 2 72 base w r.ao r.g r.cp r.c
  lacc : Acc encCrg 2 72 base w V.al V.gl V.cl V.ld
  uacc : Acc encCrg 2 72 base w V.au V.gu V.cu V.un
  lu : base ≤ V.gl → V.gl ≠ V.gu
  lr : ∀ r ∈ V.rs, base ≤ r.g → r.g ≠ V.gl ∧ r.g ≠ V.gu
  rr : ∀ i j, i < j → j < V.rs.length → base ≤ (nth V.rs i).g → (nth V.rs i).g ≠ (nth V.rs j).g
section
variable {base sb : Nat} {w w' : World} {V : SG} {S : Nat → Prop}
theorem SeaM.ext (h : SeaM base sb w V) (u : Ext w w') : SeaM base sb w' V :=
  ⟨h.sge, h.blk.kx u, h.hacc.keep u (fun _ h => h), fun r hr => ⟨(h.cacc r hr).1, (h.cacc r hr).2.keep u (fun _ h => h)⟩, h.lacc.keep u (fun _ h => h), h.uacc.keep u (fun _ h => h), h.lu, h.lr, h.rr⟩
end
end Go.Proofs.YtagmkfbbhfaceaaGreatDoor
namespace Go.Proofs.YtagmkfbbhfaceaaGreatDoor
open Go Go.RowKit Go.Proofs.Tryz
set_option maxRecDepth 10000
/-! ### what entries do -/
structure Hul where
  n : Int
  p : Int
  c : List Crg
instance : Inhabited Hul := ⟨⟨0, 0, []⟩⟩
structure Sea where
  m : Int
  wk : Int
  hs : List Hul
  ld : List Crg
  un : List Crg
def HR.hul (r : HR) : Hul := ⟨r.n, r.p, r.c⟩
def SG.st (V : SG) : Sea := ⟨V.m, V.wk, V.rs.map HR.hul, V.ld, V.un⟩
theorem nth_mapG {α β : Type} [Inhabited α] [Inhabited β] {f : α → β} {l : List α} {i : Nat} (h : i < l.length) : nth (l.map f) i = f (nth l i) := by
  rw [nth_eq (by rw [List.length_map]; exact h), List.getElem_map, nth_eq h]
def buildP (S : Sea) (x : Ent) : Int × Sea :=
  if isK (fun h : Hul => h.n) x.h S.hs = true then (6, S) else (0, { S with hs := S.hs.take (posK (fun h : Hul => h.n) x.h S.hs) ++ (⟨x.h, x.p, []⟩ : Hul) :: S.hs.drop (posK (fun h : Hul => h.n) x.h S.hs) })
def loadP (S : Sea) (k : Nat) (x : Ent) : Int × Sea :=
  if 100000 < tonP 0 (nth S.hs k).c + x.t then (8, S) else (0, { S with hs := S.hs.set k ⟨(nth S.hs k).n, (nth S.hs k).p, bookP x.b x.t (nth S.hs k).c⟩, ld := bookP x.b x.t S.ld })
def sailP (S : Sea) (k : Nat) (x : Ent) : Int × Sea :=
  if x.p - (nth S.hs k).p = 0 then (9, S) else (0, { S with wk := S.wk + tonP 0 (nth S.hs k).c * max (x.p - (nth S.hs k).p) (-(x.p - (nth S.hs k).p)), hs := S.hs.set k ⟨(nth S.hs k).n, x.p, (nth S.hs k).c⟩ })
def unloadP (S : Sea) (k : Nat) (x : Ent) : Int × Sea :=
  if tonP x.b (nth S.hs k).c < x.t then (3, S) else (0, { S with hs := S.hs.set k ⟨(nth S.hs k).n, (nth S.hs k).p, bookP x.b (-x.t) (nth S.hs k).c⟩, un := bookP x.b x.t S.un })
/-- A state in order, after entries of at most T tons in all. -/
structure SeaOk (T : Int) (S : Sea) : Prop where
  asc : Asc (fun h : Hul => h.n) S.hs
  hul : ∀ h ∈ S.hs, (1 ≤ h.n ∧ h.n ≤ 999) ∧ (0 ≤ h.p ∧ h.p ≤ 100000) ∧ CgOk 100000 h.c ∧ tonP 0 h.c ≤ 100000
  ld : CgOk T S.ld
  un : CgOk T S.un
  t : 0 ≤ T ∧ T ≤ 1000000000
  wk : 0 ≤ S.wk ∧ S.wk ≤ T * 100000
  m : 0 ≤ S.m ∧ S.m ≤ 1000000
theorem CgOk.mono {T T' : Int} {l : List Crg} (h : CgOk T l) (ht : T ≤ T') : CgOk T' l := ⟨h.1, fun x hx => by have := h.2 x hx; omega⟩
theorem SeaOk.rasc {T : Int} {V : SG} (h : SeaOk T V.st) : Asc (fun x : HR => x.n) V.rs := fun i j hij hj => by
  have := h.asc i j hij (by show j < (V.rs.map HR.hul).length; rw [List.length_map]; exact hj)
  change (nth (V.rs.map HR.hul) i).n < (nth (V.rs.map HR.hul) j).n at this
  rw [nth_mapG (by omega), nth_mapG hj] at this
  exact this
theorem SeaOk.rhul {T : Int} {V : SG} (h : SeaOk T V.st) (r : HR) (hr : r ∈ V.rs) : (1 ≤ r.n ∧ r.n ≤ 999) ∧ (0 ≤ r.p ∧ r.p ≤ 100000) ∧ CgOk 100000 r.c ∧ tonP 0 r.c ≤ 100000 := h.hul r.hul (List.mem_map_of_mem hr)
theorem SeaOk.rlen {T : Int} {V : SG} (h : SeaOk T V.st) : V.rs.length ≤ 999 := by
  have := h.rasc.len (m := 999) (fun x hx => (h.rhul x hx).1) (by decide)
  omega
theorem mul_range {a b m n : Int} (ha : 0 ≤ a ∧ a ≤ m) (hb : 0 ≤ b ∧ b ≤ n) : 0 ≤ a * b ∧ a * b ≤ m * n := ⟨Int.mul_nonneg ha.1 hb.1, Int.mul_le_mul ha.2 hb.2 hb.1 (Int.le_trans ha.1 ha.2)⟩
end Go.Proofs.YtagmkfbbhfaceaaGreatDoor
namespace Go.Proofs.YtagmkfbbhfaceaaGreatDoor
open Go Go.RowKit
/-- In block r lies a map with the int keys ks, each true. -/
def SetI (ks : List Int) (w : World) (r : Nat) : Prop := ∃ es c, w.heap[r]? = some (.map es c) ∧ es.toList.map (fun e => (e.key, e.val)) = ks.map (fun k => (Value.int .i64 k, Value.bool true))
theorem SetI.lt {ks : List Int} {w : World} {r : Nat} (h : SetI ks w r) : r < w.heap.size := by obtain ⟨es, c, h, _⟩ := h; exact lt_of_block h
theorem SetI.keep {ks : List Int} {w : World} {r : Nat} {w' : World} {S : Nat → Prop} (h : SetI ks w r) (u : Upd S w w') (hn : ¬ S r) : SetI ks w' r := by
  obtain ⟨es, c, h1, h2⟩ := h
  exact ⟨es, c, (u.block r (lt_of_block h1) hn).trans h1, h2⟩
theorem SetI.notBlk {ks : List Int} {w : World} {r b : Nat} {t : TypeId} {cs : List Value} (h : SetI ks w r) (hb : Blk w b t cs) : b ≠ r := fun e => by
  obtain ⟨es, c, h1, _⟩ := h
  subst e
  have h2 : w.heap[b]? = _ := hb
  rw [h1] at h2; cases h2
section steps
variable {rd : Option Nat} {P : Program} {ops : Array Oper} {Q : Exit → Act → World → Prop} {N : Nat} {ds : List Deferred} {rest : List Oper} {L : Slots} {w : World}
variable {d : Nat} {ty : TypeId} {pos : String} {aft : Array Edge} {g : Option (Nat × Bool)}
end steps
end Go.Proofs.YtagmkfbbhfaceaaGreatDoor
namespace Go.Proofs.YtagmkfbbhfaceaaGreatDoor
open Go Go.RowKit Go.Proofs.Tryz
set_option maxRecDepth 10000
/-! ### a map from numbers to functions -/
def kvV (p : Int × Value) : Value × Value := (.int .i64 p.1, p.2)
def MapV (m : List (Int × Value)) (w : World) (r : Nat) : Prop := ∃ es c, w.heap[r]? = some (.map es c) ∧ es.toList.map (fun e => (e.key, e.val)) = m.map kvV
theorem MapV.keep {m : List (Int × Value)} {w w' : World} {r : Nat} {S : Nat → Prop} (h : MapV m w r) (u : Upd S w w') (hn : ¬ S r) : MapV m w' r := by
  obtain ⟨es, c, h1, h2⟩ := h
  exact ⟨es, c, (u.block r (lt_of_block h1) hn).trans h1, h2⟩
section
variable {rd : Option Nat} {P : Program} {ops : Array Oper} {Q : Exit → Act → World → Prop} {N : Nat} {ds : List Deferred} {rest : List Oper} {L : Slots} {w : World}
variable {d : Nat} {ty : TypeId} {pos : String} {aft : Array Edge} {g : Option (Nat × Bool)}
end
/-- what an entry does -/
def stepP (S : Sea) (x : Ent) : Int × Sea :=
  if okEnt x = false then (2, S) else if x.m < S.m then (9, S) else if x.k = 1 then buildP S x else if isK (fun h : Hul => h.n) x.h S.hs = true then
    (if x.k = 2 then loadP S (posK (fun h : Hul => h.n) x.h S.hs) x else if x.k = 3 then sailP S (posK (fun h : Hul => h.n) x.h S.hs) x else unloadP S (posK (fun h : Hul => h.n) x.h S.hs) x) else (7, S)
end Go.Proofs.YtagmkfbbhfaceaaGreatDoor
namespace Go.Proofs.YtagmkfbbhfaceaaGreatDoor
open Go Go.RowKit
set_option maxRecDepth 10000
/-! ### states stay in order -/
theorem asc_cons {α : Type} [Inhabited α] {ky : α → Int} {x : α} {l : List α} : Asc ky (x :: l) ↔ (∀ y ∈ l, ky x < ky y) ∧ Asc ky l := by
  constructor
  · intro h
    refine ⟨fun y hy => ?_, fun i j hij hj => h (i + 1) (j + 1) (by omega) (by simpa using hj)⟩
    obtain ⟨j, hj, rfl⟩ := List.mem_iff_getElem.1 hy
    have := h 0 (j + 1) (by omega) (by simpa using hj)
    have e : nth (x :: l) (j + 1) = l[j] := nth_eq (by simpa using hj)
    rw [e] at this
    exact this
  · rintro ⟨h1, h2⟩ i j hij hj
    cases j with
    | zero => omega
    | succ j =>
      have hj : j < l.length := by simpa using hj
      cases i with
      | zero => exact h1 _ (nth_mem hj)
      | succ i => exact h2 i j (by omega) hj
theorem asc_nil {α : Type} [Inhabited α] {ky : α → Int} : Asc ky ([] : List α) := fun _ _ _ h => absurd h (Nat.not_lt_zero _)
theorem CgOk.nil (T : Int) : CgOk T [] := ⟨asc_nil, fun x hx => by cases hx⟩
theorem cg_cons {T : Int} {x : Crg} {l : List Crg} : CgOk T (x :: l) ↔ (∀ y ∈ l, x.b < y.b) ∧ ((1 ≤ x.b ∧ x.b ≤ 9999) ∧ (1 ≤ x.t ∧ x.t ≤ T)) ∧ CgOk T l := by
  unfold CgOk
  rw [asc_cons]
  constructor
  · rintro ⟨⟨h1, h2⟩, h3⟩
    exact ⟨h1, h3 x (List.mem_cons_self ..), h2, fun y hy => h3 y (List.mem_cons_of_mem _ hy)⟩
  · rintro ⟨h1, h2, h3, h4⟩
    exact ⟨⟨h1, h3⟩, fun y hy => by
      rcases List.mem_cons.1 hy with rfl | hy
      · exact h2
      · exact h4 y hy⟩
theorem bookP_mem {bill tons : Int} {y : Crg} : ∀ {l : List Crg}, y ∈ bookP bill tons l → y ∈ l ∨ y.b = bill
  | [], h => by
    unfold bookP at h
    split at h
    · cases h
    · right; rw [List.mem_singleton.1 h]
  | x :: l, h => by
    unfold bookP at h
    split at h
    · rcases List.mem_cons.1 h with rfl | h
      · exact .inl (List.mem_cons_self ..)
      · rcases bookP_mem h with h | h
        · exact .inl (List.mem_cons_of_mem _ h)
        · exact .inr h
    · split at h
      · split at h
        · exact .inl (List.mem_cons_of_mem _ h)
        · rcases List.mem_cons.1 h with rfl | h
          · exact .inr rfl
          · exact .inl (List.mem_cons_of_mem _ h)
      · split at h
        · exact .inl h
        · rcases List.mem_cons.1 h with rfl | h
          · exact .inr rfl
          · exact .inl h
theorem CgOk.book {T T' bill tons : Int} (hb : 1 ≤ bill ∧ bill ≤ 9999) (h1 : T ≤ T') (h2 : T + tons ≤ T') (h3 : tons ≤ T') : ∀ {l : List Crg}, CgOk T l → (∀ x ∈ l, x.b = bill → 0 ≤ x.t + tons) → ((∀ x ∈ l, x.b ≠ bill) → 0 ≤ tons) → CgOk T' (bookP bill tons l)
  | [], _, _, h5 => by
    have h5 := h5 fun x hx => by cases hx
    unfold bookP
    split
    · exact CgOk.nil _
    · exact cg_cons.2 ⟨fun y hy => (by cases hy), ⟨hb, by show 1 ≤ tons ∧ tons ≤ T'; omega⟩, CgOk.nil _⟩
  | x :: l, h, h4, h5 => by
    obtain ⟨q1, q2, q3⟩ := cg_cons.1 h
    unfold bookP
    split
    · rename_i hx
      refine cg_cons.2 ⟨fun y hy => ?_, ⟨q2.1, by omega⟩, CgOk.book hb h1 h2 h3 q3 (fun y hy => h4 y (List.mem_cons_of_mem _ hy)) fun hn => h5 fun y hy => ?_⟩
      · rcases bookP_mem hy with hy | hy
        · exact q1 y hy
        · omega
      · rcases List.mem_cons.1 hy with rfl | hy
        · omega
        · exact hn y hy
    · rename_i hx
      split
      · rename_i he
        split
        · exact q3.mono h1
        · have := h4 x (List.mem_cons_self ..) he
          refine cg_cons.2 ⟨fun y hy => ?_, ⟨hb, ?_⟩, q3.mono h1⟩
          · have := q1 y hy
            show bill < y.b
            omega
          · show 1 ≤ x.t + tons ∧ x.t + tons ≤ T'
            omega
      · rename_i he
        have h5 := h5 fun y hy => by
          rcases List.mem_cons.1 hy with rfl | hy
          · exact he
          · have := q1 y hy; omega
        split
        · exact h.mono h1
        · refine cg_cons.2 ⟨fun y hy => ?_, ⟨hb, ?_⟩, h.mono h1⟩
          · show bill < y.b
            rcases List.mem_cons.1 hy with rfl | hy
            · omega
            · have := q1 y hy; omega
          · show 1 ≤ tons ∧ tons ≤ T'
            omega
theorem tonP_book (b bill tons : Int) : ∀ l : List Crg, tonP b (bookP bill tons l) = tonP b l + (if b = 0 ∨ bill = b then tons else 0)
  | [] => by
    unfold bookP
    by_cases h : tons = 0
    · rw [if_pos h, h]; split <;> simp
    · rw [if_neg h]; simp [tonP]
  | x :: l => by
    unfold bookP
    by_cases h : x.b < bill
    · rw [if_pos h]; simp only [tonP, tonP_book b bill tons l]; omega
    · rw [if_neg h]
      by_cases he : x.b = bill
      · rw [if_pos he]
        by_cases hz : x.t + tons = 0
        · rw [if_pos hz]; simp only [tonP]; rw [he]; split <;> omega
        · rw [if_neg hz]; simp only [tonP]; rw [he]; split <;> omega
      · rw [if_neg he]
        by_cases hz : tons = 0
        · rw [if_pos hz, hz]; split <;> simp
        · rw [if_neg hz]; simp only [tonP]; omega
theorem tonP_mem {l : List Crg} (h : ∀ x ∈ l, 1 ≤ x.t) : ∀ {x : Crg}, x ∈ l → x.t ≤ tonP 0 l ∧ ∀ b, x.b = b → x.t ≤ tonP b l := by
  induction l with
  | nil => intro x hx; cases hx
  | cons y l ih =>
    intro x hx
    have hn : ∀ (b : Int) (m : List Crg), (∀ z ∈ m, 1 ≤ z.t) → 0 ≤ tonP b m := fun b m => by
      induction m with
      | nil => intro _; simp [tonP]
      | cons z m ih => intro hm; have h1 := ih fun q hq => hm q (List.mem_cons_of_mem _ hq); have h2 := hm z (List.mem_cons_self ..); simp only [tonP]; split <;> omega
    have hl : ∀ z ∈ l, 1 ≤ z.t := fun z hz => h z (List.mem_cons_of_mem _ hz)
    have hy := h y (List.mem_cons_self ..)
    rcases List.mem_cons.1 hx with rfl | hx
    · refine ⟨?_, fun b hb => ?_⟩
      · have := hn 0 l hl; simp only [tonP]; simp; omega
      · have := hn b l hl; simp only [tonP]; rw [if_pos (.inr hb)]; omega
    · have ⟨i1, i2⟩ := ih hl hx
      refine ⟨?_, fun b hb => ?_⟩
      · simp only [tonP]; simp; omega
      · have := i2 b hb; simp only [tonP]; split <;> omega
theorem CgOk.one {T : Int} {l : List Crg} (h : CgOk T l) : ∀ x ∈ l, 1 ≤ x.t := fun x hx => (h.2 x hx).2.1
theorem CgOk.tight {T T' : Int} {l : List Crg} (h : CgOk T l) (ht : tonP 0 l ≤ T') : CgOk T' l := ⟨h.1, fun x hx => ⟨(h.2 x hx).1, (h.2 x hx).2.1, by have := (tonP_mem h.one hx).1; omega⟩⟩
theorem tonP_none {b : Int} (hb : b ≠ 0) : ∀ {l : List Crg}, (∀ x ∈ l, x.b ≠ b) → tonP b l = 0
  | [], _ => rfl
  | x :: l, h => by
    unfold tonP
    rw [tonP_none hb fun y hy => h y (List.mem_cons_of_mem _ hy), if_neg (by have := h x (List.mem_cons_self ..); omega)]; rfl
/-- the only entry of a bill is all of it -/
theorem tonP_only {T : Int} : ∀ {l : List Crg}, CgOk T l → ∀ {x : Crg}, x ∈ l → tonP x.b l = x.t
  | y :: l, h, x, hx => by
    obtain ⟨q1, q2, q3⟩ := cg_cons.1 h
    unfold tonP
    rcases List.mem_cons.1 hx with rfl | hx
    · rw [if_pos (.inr rfl), tonP_none (by omega) fun z hz => by have := q1 z hz; omega]; omega
    · have h1 := q1 x hx
      have h2 := (q3.2 x hx).1
      rw [if_neg (by omega), tonP_only q3 hx]; omega
theorem asc_set {h : Hul} {l : List Hul} {k : Nat} (ha : Asc (fun h : Hul => h.n) l) (hk : k < l.length) (hn : h.n = (nth l k).n) : Asc (fun h : Hul => h.n) (l.set k h) := fun i j hij hj => by
  rw [List.length_set] at hj
  have e : ∀ q, q < l.length → (nth (l.set k h) q).n = (nth l q).n := fun q hq => by
    by_cases e : q = k
    · subst e; rw [nth_setE hq, hn]
    · rw [nth_setN e]
  show (nth (l.set k h) i).n < (nth (l.set k h) j).n
  rw [e i (by omega), e j hj]
  exact ha i j hij hj
theorem SeaOk.setHul {T : Int} {S : Sea} (h : SeaOk T S) {k : Nat} (hk : k < S.hs.length) {q : Hul} (hn : q.n = (nth S.hs k).n) (hp : 0 ≤ q.p ∧ q.p ≤ 100000) (hc : CgOk 100000 q.c) (ht : tonP 0 q.c ≤ 100000) : Asc (fun h : Hul => h.n) (S.hs.set k q) ∧ ∀ h ∈ S.hs.set k q, (1 ≤ h.n ∧ h.n ≤ 999) ∧ (0 ≤ h.p ∧ h.p ≤ 100000) ∧ CgOk 100000 h.c ∧ tonP 0 h.c ≤ 100000 := by
  refine ⟨asc_set h.asc hk hn, fun x hx => ?_⟩
  rcases mem_set hx with rfl | ⟨j, hj, _, rfl⟩
  · exact ⟨by rw [hn]; exact (h.hul _ (nth_mem hk)).1, hp, hc, ht⟩
  · exact h.hul _ (nth_mem hj)
theorem SeaOk.mono {T T' : Int} {S : Sea} (h : SeaOk T S) (h1 : T ≤ T') (h2 : T' ≤ 1000000000) : SeaOk T' S := ⟨h.asc, h.hul, h.ld.mono h1, h.un.mono h1, ⟨by have := h.t; omega, h2⟩, ⟨h.wk.1, by have := h.wk.2; omega⟩, h.m⟩
/-- An entry that is carried out keeps a state in order. -/
theorem SeaOk.step {T : Int} {S : Sea} {x : Ent} (h : SeaOk T S) (hT : T + 100000 ≤ 1000000000) (he : (stepP S x).1 = 0) : SeaOk (T + 100000) { (stepP S x).2 with m := x.m } := by
  have h0 := h.mono (T' := T + 100000) (by omega) hT
  have ht := h.t
  unfold stepP at he ⊢
  by_cases e1 : okEnt x = false
  · rw [if_pos e1] at he; simp at he
  rw [if_neg e1] at he ⊢
  have hx := okEnt_iff (show okEnt x = true by simpa using e1)
  by_cases e2 : x.m < S.m
  · rw [if_pos e2] at he; simp at he
  rw [if_neg e2] at he ⊢
  have hm : 0 ≤ x.m ∧ x.m ≤ 1000000 := hx.2.1.elim fun _ _ => by omega
  by_cases e3 : x.k = 1
  · rw [if_pos e3] at he ⊢
    unfold buildP at he ⊢
    by_cases e4 : isK (fun h : Hul => h.n) x.h S.hs = true
    · rw [if_pos e4] at he; simp at he
    rw [if_neg e4]
    have hs := posK_spec (fun h : Hul => h.n) x.h S.hs
    have hno : ∀ i, posK (fun h : Hul => h.n) x.h S.hs ≤ i → i < S.hs.length → x.h < (nth S.hs i).n := fun i hi hl => by
      have h1 := hs.2.2 (by omega)
      have h2 : ¬ (nth S.hs (posK (fun h : Hul => h.n) x.h S.hs)).n = x.h := fun q => e4 (isK_iff.2 ⟨by omega, q⟩)
      have h1 : x.h ≤ (nth S.hs (posK (fun h : Hul => h.n) x.h S.hs)).n := h1
      rcases Nat.eq_or_lt_of_le hi with q | q
      · rw [← q]; omega
      · have := h.asc _ i q hl
        have : (nth S.hs (posK (fun h : Hul => h.n) x.h S.hs)).n < (nth S.hs i).n := this
        omega
    generalize posK (fun h : Hul => h.n) x.h S.hs = k at hs hno
    obtain ⟨hk, hb, -⟩ := hs
    have hl := ins_nth hk (⟨x.h, x.p, []⟩ : Hul)
    refine ⟨fun i j hij hj => ?_, fun q hq => ?_, h0.ld, h0.un, h0.t, h0.wk, hm⟩
    · have hj : j < (S.hs.take k ++ (⟨x.h, x.p, []⟩ : Hul) :: S.hs.drop k).length := hj
      rw [hl.2] at hj
      show (nth (S.hs.take k ++ (⟨x.h, x.p, []⟩ : Hul) :: S.hs.drop k) i).n < (nth (S.hs.take k ++ (⟨x.h, x.p, []⟩ : Hul) :: S.hs.drop k) j).n
      rcases Nat.lt_trichotomy i k with q | q | q
      · rw [nth_insL hk q]
        rcases Nat.lt_trichotomy j k with r | r | r
        · rw [nth_insL hk r]; exact h.asc i j hij (by omega)
        · subst r; rw [hl.1]; exact hb i q
        · rw [nth_insR hk r]; exact h.asc i (j - 1) (by omega) (by omega)
      · subst q; rw [hl.1, nth_insR hk hij]; exact hno (j - 1) (by omega) (by omega)
      · rw [nth_insR hk q, nth_insR hk (by omega)]; exact h.asc (i - 1) (j - 1) (by omega) (by omega)
    · have hq : q ∈ S.hs.take k ++ (⟨x.h, x.p, []⟩ : Hul) :: S.hs.drop k := hq
      rcases List.mem_append.1 hq with hq | hq
      · exact h.hul q (List.mem_of_mem_take hq)
      · rcases List.mem_cons.1 hq with rfl | hq
        · exact ⟨by show 1 ≤ x.h ∧ x.h ≤ 999; omega, by show 0 ≤ x.p ∧ x.p ≤ 100000; omega, CgOk.nil _, by show (0 : Int) ≤ 100000; decide⟩
        · exact h.hul q (List.mem_of_mem_drop hq)
  rw [if_neg e3] at he ⊢
  have e4 : isK (fun h : Hul => h.n) x.h S.hs = true := by
    by_cases e4 : isK (fun h : Hul => h.n) x.h S.hs = true
    · exact e4
    · rw [if_neg e4] at he; simp at he
  rw [if_pos e4] at he ⊢
  have hk := (isK_iff.1 e4).1
  generalize posK (fun h : Hul => h.n) x.h S.hs = k at hk he
  have hh := h.hul _ (nth_mem hk)
  have hbt : (1 ≤ x.b ∧ x.b ≤ 9999) ∧ (1 ≤ x.t ∧ x.t ≤ 100000) ∨ x.k = 3 := by omega
  by_cases e5 : x.k = 2
  · rw [if_pos e5] at he ⊢
    have hbt := hbt.resolve_right (by omega)
    unfold loadP at he ⊢
    by_cases e6 : 100000 < tonP 0 (nth S.hs k).c + x.t
    · rw [if_pos e6] at he; simp at he
    rw [if_neg e6]
    have hsum : tonP 0 (bookP x.b x.t (nth S.hs k).c) ≤ 100000 := by rw [tonP_book, if_pos (.inl rfl)]; omega
    have hc := CgOk.book (T := 100000) (T' := 200000) (tons := x.t) hbt.1 (by decide) (by omega) (by omega) hh.2.2.1 (fun y hy _ => by have := hh.2.2.1.one y hy; omega) (fun _ => by omega)
    have hu := h.setHul hk (q := ⟨(nth S.hs k).n, (nth S.hs k).p, bookP x.b x.t (nth S.hs k).c⟩) rfl hh.2.1 (hc.tight hsum) hsum
    exact ⟨hu.1, hu.2, CgOk.book hbt.1 (by omega) (by omega) (by omega) h.ld (fun y hy _ => by have := h.ld.one y hy; omega) (fun _ => by omega), h0.un, h0.t, h0.wk, hm⟩
  rw [if_neg e5] at he ⊢
  by_cases e6 : x.k = 3
  · rw [if_pos e6] at he ⊢
    unfold sailP at he ⊢
    by_cases e7 : x.p - (nth S.hs k).p = 0
    · rw [if_pos e7] at he; simp at he
    rw [if_neg e7]
    have hu := h.setHul hk (q := ⟨(nth S.hs k).n, x.p, (nth S.hs k).c⟩) rfl (by show 0 ≤ x.p ∧ x.p ≤ 100000; omega) hh.2.2.1 hh.2.2.2
    have hr := tonP_range (bill := 0) (l := (nth S.hs k).c) fun y hy => by have := (hh.2.2.1.2 y hy).2; omega
    have hm2 := mul_range (a := tonP 0 (nth S.hs k).c) (m := 100000) (b := max (x.p - (nth S.hs k).p) (-(x.p - (nth S.hs k).p))) (n := 100000) ⟨hr.1, hh.2.2.2⟩ (by have := hh.2.1; omega)
    have hwk := h.wk
    refine ⟨hu.1, hu.2, h0.ld, h0.un, h0.t, ?_, hm⟩
    show 0 ≤ S.wk + tonP 0 (nth S.hs k).c * max (x.p - (nth S.hs k).p) (-(x.p - (nth S.hs k).p)) ∧ S.wk + tonP 0 (nth S.hs k).c * max (x.p - (nth S.hs k).p) (-(x.p - (nth S.hs k).p)) ≤ (T + 100000) * 100000
    omega
  · rw [if_neg e6] at he ⊢
    have hbt := hbt.resolve_right e6
    unfold unloadP at he ⊢
    by_cases e7 : tonP x.b (nth S.hs k).c < x.t
    · rw [if_pos e7] at he; simp at he
    rw [if_neg e7]
    have hsum : tonP 0 (bookP x.b (-x.t) (nth S.hs k).c) ≤ 100000 := by rw [tonP_book, if_pos (.inl rfl)]; omega
    have hc := CgOk.book (T := 100000) (T' := 200000) (tons := -x.t) hbt.1 (by decide) (by omega) (by omega) hh.2.2.1 (fun y hy hb => by have := tonP_only hh.2.2.1 hy; rw [hb] at this; omega) (fun hn => by have := tonP_none (by omega) hn; omega)
    have hu := h.setHul hk (q := ⟨(nth S.hs k).n, (nth S.hs k).p, bookP x.b (-x.t) (nth S.hs k).c⟩) rfl hh.2.1 (hc.tight hsum) hsum
    exact ⟨hu.1, hu.2, h0.ld, CgOk.book hbt.1 (by omega) (by omega) (by omega) h.un (fun y hy _ => by have := h.un.one y hy; omega) (fun _ => by omega), h0.t, h0.wk, hm⟩

end Go.Proofs.YtagmkfbbhfaceaaGreatDoor
namespace Go.Proofs.YtagmkfbbhfaceaaGreatDoor
open Go Go.RowKit Go.Proofs.Tryz
set_option maxRecDepth 10000
/-- A state of somebody else's. -/
structure SIn (w : World) (V : SG) (oh ol ou : Nat) : Prop where
  hs : Sl encHR 3 w V.ah V.gh oh V.rs
  cs : ∀ r ∈ V.rs, Sl encCrg 2 w r.ao r.g r.o r.c
  ls : Sl encCrg 2 w V.al V.gl ol V.ld
  us : Sl encCrg 2 w V.au V.gu ou V.un
/-- j hulls' lists are copied. -/
structure OwnI (base m : Nat) (w : World) (V : SG) (j : Nat) (rs : List HR) : Prop where
  len : rs.length = V.rs.length
  hul : rs.map HR.hul = V.rs.map HR.hul
  rest : ∀ i, j ≤ i → i < V.rs.length → nth rs i = nth V.rs i
  own : ∀ i, i < j → i < V.rs.length → (nth rs i).o = 0 ∧ Acc encCrg 2 72 base w (nth rs i).ao (nth rs i).g (nth rs i).cp (nth rs i).c ∧ (base ≤ (nth rs i).g → m ≤ (nth rs i).g)
  sep : ∀ i k, i < k → k < j → k < V.rs.length → base ≤ (nth rs i).g → (nth rs i).g ≠ (nth rs k).g
theorem OwnI.zero (base m : Nat) (w : World) (V : SG) : OwnI base m w V 0 V.rs := ⟨rfl, rfl, fun _ _ _ => rfl, fun _ h => absurd h (Nat.not_lt_zero _), fun _ _ _ h => absurd h (Nat.not_lt_zero _)⟩
theorem OwnI.keep {base m : Nat} {w w' : World} {V : SG} {j : Nat} {rs : List HR} {S : Nat → Prop} (h : OwnI base m w V j rs) (u : Upd S w w') (hS : ∀ i, S i → i < m) : OwnI base m w' V j rs :=
  ⟨h.len, h.hul, h.rest, fun i hi hl => ⟨(h.own i hi hl).1, (h.own i hi hl).2.1.keep u (fun hb hs => by have := hS _ hs; have := (h.own i hi hl).2.2 hb; omega), (h.own i hi hl).2.2⟩, h.sep⟩
theorem OwnI.next {base m : Nat} {w w' : World} {V : SG} {j : Nat} {rs : List HR} (h : OwnI base m w' V j rs) (hj : j < V.rs.length) {ao : Option Addr} {g cp : Nat} (ha : Acc encCrg 2 72 base w' ao g cp (nth rs j).c) (hg : base ≤ g → m ≤ g ∧ w.heap.size ≤ g) (hw : ∀ i, i < j → (nth rs i).g < w.heap.size) : OwnI base m w' V (j + 1) (rs.set j ⟨(nth rs j).n, (nth rs j).p, ao, g, 0, cp, (nth rs j).c⟩) := by
  have hl := h.len
  refine ⟨by rw [List.length_set, hl], ?_, fun i hi hl2 => ?_, fun i hi hl2 => ?_, fun i k hik hk hl2 => ?_⟩
  · rw [← h.hul, List.map_set]
    have e : (HR.hul ⟨(nth rs j).n, (nth rs j).p, ao, g, 0, cp, (nth rs j).c⟩) = nth (rs.map HR.hul) j := by rw [nth_mapG (by omega)]; rfl
    rw [e]
    refine set_same ?_
    rw [List.getElem?_eq_getElem (by rw [List.length_map]; omega), nth_eq]
  · rw [nth_setN (by omega)]; exact h.rest i (by omega) hl2
  · by_cases e : i = j
    · subst e; rw [nth_setE (by omega)]; exact ⟨rfl, ha, fun hb => (hg hb).1⟩
    · rw [nth_setN e]; exact h.own i (by omega) hl2
  · by_cases e : k = j
    · subst e
      rw [nth_setN (by omega), nth_setE (by omega)]
      intro hb hq
      have hq : (nth rs i).g = g := hq
      have := hw i hik
      have := hg (by omega)
      omega
    · rw [nth_setN (by omega), nth_setN e]; exact h.sep i k hik (by omega) hl2
theorem OwnI.lt {base m : Nat} {w : World} {V : SG} {j : Nat} {rs : List HR} (h : OwnI base m w V j rs) (hj : j ≤ V.rs.length) : ∀ i, i < j → (nth rs i).g < w.heap.size := fun i hi => (h.own i hi (by omega)).2.1.lt
theorem SIn.ext {w w' : World} {V : SG} {oh ol ou : Nat} (h : SIn w V oh ol ou) (u : Ext w w') : SIn w' V oh ol ou := ⟨h.hs.keep u (fun _ h => h), fun r hr => (h.cs r hr).keep u (fun _ h => h), h.ls.keep u (fun _ h => h), h.us.keep u (fun _ h => h)⟩
end Go.Proofs.YtagmkfbbhfaceaaGreatDoor
namespace Go.Proofs.YtagmkfbbhfaceaaGreatDoor
open Go Go.RowKit Go.Proofs.Tryz
set_option maxRecDepth 10000
def zSea : Sea := ⟨0, 0, [], [], []⟩
def SG0 : SG := ⟨0, [], none, 0, 0, [], none, 0, 0, [], none, 0, 0, 0⟩
theorem sl_nil {α : Type} [Inhabited α] {enc : α → List Value} {k : Nat} {w : World} (_h : 0 < w.heap.size) : Sl enc k w none 0 0 [] := ⟨fun hp => absurd hp (Nat.lt_irrefl _), fun hp => absurd hp (Nat.lt_irrefl _), fun _i hi => absurd hi (Nat.not_lt_zero _)⟩
theorem SIn.zero {w : World} (h : 0 < w.heap.size) : SIn w SG0 0 0 0 := ⟨sl_nil h, fun r hr => (by cases hr), sl_nil h, sl_nil h⟩
theorem SeaM.low {base sb : Nat} {w w' : World} {V : SG} {S : Nat → Prop} (h : SeaM base sb w V) (u : Upd S w w') (hS : ∀ i, S i → i < base) : SeaM base sb w' V :=
  ⟨h.sge, h.blk.keep u (fun hs => by have := hS _ hs; have := h.sge; omega), h.hacc.keep u (fun hb hs => by have := hS _ hs; omega), fun r hr => ⟨(h.cacc r hr).1, (h.cacc r hr).2.keep u (fun hb hs => by have := hS _ hs; omega)⟩, h.lacc.keep u (fun hb hs => by have := hS _ hs; omega), h.uacc.keep u (fun hb hs => by have := hS _ hs; omega), h.lu, h.lr, h.rr⟩
/-- All blocks of a state lie from b on, where there is something in them. -/
structure SeaF (b : Nat) (V : SG) : Prop where
  h : 0 < V.rs.length → b ≤ V.gh
  c : ∀ r ∈ V.rs, 0 < r.c.length → b ≤ r.g
  l : 0 < V.ld.length → b ≤ V.gl
  u : 0 < V.un.length → b ≤ V.gu
theorem SIn.keepN {w w' : World} {V : SG} {oh ol ou b : Nat} {S : Nat → Prop} (h : SIn w V oh ol ou) (f : SeaF b V) (u : Upd S w w') (hS : ∀ i, S i → i < b) : SIn w' V oh ol ou :=
  ⟨h.hs.keep u (fun hp hs => by have := hS _ hs; have := f.h hp; omega), fun r hr => (h.cs r hr).keep u (fun hp hs => by have := hS _ hs; have := f.c r hr hp; omega), h.ls.keep u (fun hp hs => by have := hS _ hs; have := f.l hp; omega), h.us.keep u (fun hp hs => by have := hS _ hs; have := f.u hp; omega)⟩
theorem SeaF.zero (b : Nat) : SeaF b SG0 := ⟨fun h => absurd h (Nat.lt_irrefl 0), fun r hr => (by cases hr), fun h => absurd h (Nat.lt_irrefl 0), fun h => absurd h (Nat.lt_irrefl 0)⟩
theorem SeaF.mono {b b' : Nat} {V : SG} (h : SeaF b V) (hb : b' ≤ b) : SeaF b' V := ⟨fun hp => by have := h.h hp; omega, fun r hr hp => by have := h.c r hr hp; omega, fun hp => by have := h.l hp; omega, fun hp => by have := h.u hp; omega⟩
end Go.Proofs.YtagmkfbbhfaceaaGreatDoor
namespace Go.Proofs.YtagmkfbbhfaceaaGreatDoor
open Go Go.RowKit
set_option maxRecDepth 10000
/-! ### seasons: what is loaded is aboard or unloaded -/
def allT (b : Int) : List Hul → Int
  | [] => 0
  | h :: r => tonP b h.c + allT b r
theorem allT_app (b : Int) : ∀ l m : List Hul, allT b (l ++ m) = allT b l + allT b m
  | [], m => by simp [allT]
  | x :: l, m => by simp only [List.cons_append, allT, allT_app b l m]; omega
theorem allT_ins (b : Int) (l : List Hul) (k : Nat) (q : Hul) : allT b (l.take k ++ q :: l.drop k) = allT b l + tonP b q.c := by
  have e : allT b l = allT b (l.take k) + allT b (l.drop k) := by rw [← allT_app, List.take_append_drop]
  rw [allT_app, e]; simp only [allT]; omega
theorem allT_set (b : Int) (q : Hul) : ∀ {l : List Hul} {k : Nat}, k < l.length → allT b (l.set k q) = allT b l - tonP b (nth l k).c + tonP b q.c
  | x :: l, 0, _ => by
    have e : nth (x :: l) 0 = x := rfl
    rw [e, List.set_cons_zero]; simp only [allT]; omega
  | x :: l, k + 1, h => by
    have e : nth (x :: l) (k + 1) = nth l k := rfl
    rw [e, List.set_cons_succ]; simp only [allT]
    rw [allT_set b q (l := l) (k := k) (by simpa using h)]; omega
/-- What was loaded of a bill is aboard, or was unloaded. -/
def Bal (S : Sea) : Prop := ∀ b : Int, allT b S.hs + tonP b S.un = tonP b S.ld
theorem Bal.zero : Bal zSea := fun _ => rfl
theorem Bal.step {S : Sea} {x : Ent} (h : Bal S) (he : (stepP S x).1 = 0) : Bal { (stepP S x).2 with m := x.m } := by
  intro b
  have hb := h b
  unfold stepP at he ⊢
  by_cases e1 : okEnt x = false
  · rw [if_pos e1] at he; simp at he
  rw [if_neg e1] at he ⊢
  by_cases e2 : x.m < S.m
  · rw [if_pos e2] at he; simp at he
  rw [if_neg e2] at he ⊢
  by_cases e3 : x.k = 1
  · rw [if_pos e3] at he ⊢
    unfold buildP at he ⊢
    by_cases e4 : isK (fun h : Hul => h.n) x.h S.hs = true
    · rw [if_pos e4] at he; simp at he
    rw [if_neg e4]
    show allT b (S.hs.take _ ++ (⟨x.h, x.p, []⟩ : Hul) :: S.hs.drop _) + tonP b S.un = tonP b S.ld
    rw [allT_ins]
    simp only [tonP]; omega
  rw [if_neg e3] at he ⊢
  have e4 : isK (fun h : Hul => h.n) x.h S.hs = true := by
    by_cases e4 : isK (fun h : Hul => h.n) x.h S.hs = true
    · exact e4
    · rw [if_neg e4] at he; simp at he
  rw [if_pos e4] at he ⊢
  have hk := (isK_iff.1 e4).1
  generalize posK (fun h : Hul => h.n) x.h S.hs = k at hk he
  by_cases e5 : x.k = 2
  · rw [if_pos e5] at he ⊢
    unfold loadP at he ⊢
    by_cases e6 : 100000 < tonP 0 (nth S.hs k).c + x.t
    · rw [if_pos e6] at he; simp at he
    rw [if_neg e6]
    show allT b (S.hs.set k ⟨(nth S.hs k).n, (nth S.hs k).p, bookP x.b x.t (nth S.hs k).c⟩) + tonP b S.un = tonP b (bookP x.b x.t S.ld)
    rw [allT_set b _ hk, tonP_book, tonP_book]; omega
  rw [if_neg e5] at he ⊢
  by_cases e6 : x.k = 3
  · rw [if_pos e6] at he ⊢
    unfold sailP at he ⊢
    by_cases e7 : x.p - (nth S.hs k).p = 0
    · rw [if_pos e7] at he; simp at he
    rw [if_neg e7]
    show allT b (S.hs.set k ⟨(nth S.hs k).n, x.p, (nth S.hs k).c⟩) + tonP b S.un = tonP b S.ld
    rw [allT_set b _ hk]; simp only []; omega
  · rw [if_neg e6] at he ⊢
    unfold unloadP at he ⊢
    by_cases e7 : tonP x.b (nth S.hs k).c < x.t
    · rw [if_pos e7] at he; simp at he
    rw [if_neg e7]
    show allT b (S.hs.set k ⟨(nth S.hs k).n, (nth S.hs k).p, bookP x.b (-x.t) (nth S.hs k).c⟩) + tonP b (bookP x.b x.t S.un) = tonP b S.ld
    rw [allT_set b _ hk, tonP_book, tonP_book]
    split <;> omega

end Go.Proofs.YtagmkfbbhfaceaaGreatDoor
namespace Go.Proofs.YtagmkfbbhfaceaaGreatDoor
open Go Go.RowKit
set_option maxRecDepth 10000
theorem take_eq {α : Type} [Inhabited α] {a b : List α} {j : Nat} (h : a.take j = b.take j) (hl : a.length = b.length) (hj : j < a.length) (he : nth a j = nth b j) : a.take (j + 1) = b.take (j + 1) := by
  rw [take_nth hj, take_nth (by omega), h, he]
theorem nth_take_ne {α : Type} [Inhabited α] {a b : List α} {j : Nat} (he : nth a j ≠ nth b j) : a ≠ b := fun e => he (by rw [e])

instance : DecidableEq Crg := fun a b => if h : a.b = b.b ∧ a.t = b.t then isTrue (by cases a; cases b; simp at h; simp [h]) else isFalse (fun e => h (by rw [e]; exact ⟨rfl, rfl⟩))


end Go.Proofs.YtagmkfbbhfaceaaGreatDoor
namespace Go.Proofs.YtagmkfbbhfaceaaGreatDoor
open Go Go.RowKit
set_option maxRecDepth 10000
end Go.Proofs.YtagmkfbbhfaceaaGreatDoor
