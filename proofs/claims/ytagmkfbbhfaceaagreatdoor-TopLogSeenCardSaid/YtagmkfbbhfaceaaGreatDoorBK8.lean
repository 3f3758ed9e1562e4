/-
  Part 8 of the proof: contracts and plain laws. Conditions: none.
-/
import Derived.Shelf.Strings.OnBuilder
import Derived.Shelf.Strconv.Itoa3
import Derived.Ground.NamesProg
import Derived.Test.YtagmkfbbhfaceaaGreatDoorProg
import Derived.Lib.ItoaLen
import Derived.Lib.Join
import Derived.Maps.RangeRun
import Derived.Test.YtagmkfbbhfaceaaGreatDoorBK7
namespace Go.Proofs
open Go.Shelf
def YtagmkfbbhfaceaaGreatDoor.layJoin_ren : Go.Shelf.Ren := ⟨fun | 156 => 187 | 165 => 217 | 166 => 109 | 169 => 110 | 240 => 152 | 241 => 245 | 276 => 193 | 277 => 268 | n => n, fun | 31 => 206 | 9 => 9 | 3 => 3 | 4 => 4 | 0 => 0 | 20 => 20 | 72 => 214 | 76 => 210 | 70 => 212 | 37 => 24 | 75 => 209 | 127 => 263 | 164 => 305 | 5 => 5 | 80 => 215 | n => n, fun | n => n⟩
theorem YtagmkfbbhfaceaaGreatDoor.layJoin : Go.Proofs.Lays.n156 Tryz.prog YtagmkfbbhfaceaaGreatDoor.layJoin_ren := {
  mixed := by kernel_rfl
  f156 := Tryz.func187.trans (congrArg some (by kernel_rfl))
  f165 := Tryz.func217.trans (congrArg some (by kernel_rfl))
  f166 := Tryz.func109.trans (congrArg some (by kernel_rfl))
  f169 := Tryz.func110.trans (congrArg some (by kernel_rfl))
  f240 := Tryz.func152.trans (congrArg some (by kernel_rfl))
  f241 := Tryz.func245.trans (congrArg some (by kernel_rfl))
  f276 := Tryz.func193.trans (congrArg some (by kernel_rfl))
  f277 := Tryz.func268.trans (congrArg some (by kernel_rfl))
  t0 := Tryz.underlying0
  a0 := Tryz.isAgg0
  z0 := Tryz.sizeOf0
  v0 := Tryz.zeroValue0
  t3 := Tryz.underlying3
  a3 := Tryz.isAgg3
  z3 := Tryz.sizeOf3
  v3 := Tryz.zeroValue3
  t4 := Tryz.underlying4
  a4 := Tryz.isAgg4
  z4 := Tryz.sizeOf4
  v4 := Tryz.zeroValue4
  t9 := Tryz.underlying9
  a9 := Tryz.isAgg9
  z9 := Tryz.sizeOf9
  v9 := Tryz.zeroValue9
  t20 := Tryz.underlying20
  a20 := Tryz.isAgg20
  z20 := Tryz.sizeOf20
  v20 := Tryz.zeroValue20
  t31 := Tryz.underlying206
  a31 := Tryz.isAgg206
  z31 := Tryz.sizeOf206
  v31 := Tryz.zeroValue206
  t37 := Tryz.underlying24
  a37 := Tryz.isAgg24
  z37 := Tryz.sizeOf24
  v37 := Tryz.zeroValue24
  t70 := Tryz.underlying212
  a70 := Tryz.isAgg212
  z70 := Tryz.sizeOf212
  v70 := Tryz.zeroValue212
  t72 := Tryz.underlying214
  a72 := Tryz.isAgg214
  z72 := Tryz.sizeOf214
  v72 := Tryz.zeroValue214
  t75 := Tryz.underlying209
  a75 := Tryz.isAgg209
  z75 := Tryz.sizeOf209
  v75 := Tryz.zeroValue209
  t76 := Tryz.underlying210
  a76 := Tryz.isAgg210
  z76 := Tryz.sizeOf210
  v76 := Tryz.zeroValue210
  t127 := Tryz.underlying263
  a127 := Tryz.isAgg263
  z127 := Tryz.sizeOf263
  v127 := Tryz.zeroValue263
  t164 := Tryz.underlying305
  a164 := Tryz.isAgg305
  z164 := Tryz.sizeOf305
  v164 := Tryz.zeroValue305 }
def YtagmkfbbhfaceaaGreatDoor.layItoa_ren : Go.Shelf.Ren := ⟨fun | 171 => 147 | 243 => 186 | 246 => 216 | 283 => 241 | 284 => 242 | 285 => 243 | 286 => 244 | 129 => 173 | 317 => 264 | 318 => 265 | 319 => 266 | 320 => 267 | 337 => 274 | 338 => 275 | n => n, fun | 3 => 3 | 9 => 9 | 2 => 2 | 4 => 4 | 171 => 347 | 0 => 0 | 53 => 225 | 37 => 24 | 5 => 5 | 173 => 349 | 212 => 372 | 51 => 94 | 20 => 20 | 213 => 373 | 46 => 175 | 232 => 110 | 233 => 384 | n => n, fun | 17 => 5 | 18 => 8 | 19 => 9 | n => n⟩
theorem YtagmkfbbhfaceaaGreatDoor.layItoa : Go.Proofs.LaysM.n171 Tryz.prog YtagmkfbbhfaceaaGreatDoor.layItoa_ren := {
  mixed := by kernel_rfl
  f129 := Tryz.func173.trans (congrArg some (by kernel_rfl))
  f171 := Tryz.func147.trans (congrArg some (by kernel_rfl))
  f243 := Tryz.func186.trans (congrArg some (by kernel_rfl))
  f246 := Tryz.func216.trans (congrArg some (by kernel_rfl))
  f283 := Tryz.func241.trans (congrArg some (by kernel_rfl))
  f284 := Tryz.func242.trans (congrArg some (by kernel_rfl))
  f285 := Tryz.func243.trans (congrArg some (by kernel_rfl))
  f286 := Tryz.func244.trans (congrArg some (by kernel_rfl))
  f317 := Tryz.func264.trans (congrArg some (by kernel_rfl))
  f318 := Tryz.func265.trans (congrArg some (by kernel_rfl))
  f319 := Tryz.func266.trans (congrArg some (by kernel_rfl))
  f320 := Tryz.func267.trans (congrArg some (by kernel_rfl))
  f337 := Tryz.func274.trans (congrArg some (by kernel_rfl))
  f338 := Tryz.func275.trans (congrArg some (by kernel_rfl))
  t0 := Tryz.underlying0
  a0 := Tryz.isAgg0
  z0 := Tryz.sizeOf0
  v0 := Tryz.zeroValue0
  t2 := Tryz.underlying2
  a2 := Tryz.isAgg2
  z2 := Tryz.sizeOf2
  v2 := Tryz.zeroValue2
  t3 := Tryz.underlying3
  a3 := Tryz.isAgg3
  z3 := Tryz.sizeOf3
  v3 := Tryz.zeroValue3
  t4 := Tryz.underlying4
  a4 := Tryz.isAgg4
  z4 := Tryz.sizeOf4
  v4 := Tryz.zeroValue4
  t5 := Tryz.underlying5
  a5 := Tryz.isAgg5
  z5 := Tryz.sizeOf5
  v5 := Tryz.zeroValue5
  t9 := Tryz.underlying9
  a9 := Tryz.isAgg9
  z9 := Tryz.sizeOf9
  v9 := Tryz.zeroValue9
  t20 := Tryz.underlying20
  a20 := Tryz.isAgg20
  z20 := Tryz.sizeOf20
  v20 := Tryz.zeroValue20
  t37 := Tryz.underlying24
  a37 := Tryz.isAgg24
  z37 := Tryz.sizeOf24
  v37 := Tryz.zeroValue24
  t46 := Tryz.underlying175
  a46 := Tryz.isAgg175
  z46 := Tryz.sizeOf175
  v46 := Tryz.zeroValue175
  t51 := Tryz.underlying94
  a51 := Tryz.isAgg94
  z51 := Tryz.sizeOf94
  v51 := Tryz.zeroValue94
  t53 := Tryz.underlying225
  a53 := Tryz.isAgg225
  z53 := Tryz.sizeOf225
  v53 := Tryz.zeroValue225
  t171 := Tryz.underlying347
  a171 := Tryz.isAgg347
  z171 := Tryz.sizeOf347
  v171 := Tryz.zeroValue347
  t173 := Tryz.underlying349
  a173 := Tryz.isAgg349
  z173 := Tryz.sizeOf349
  v173 := Tryz.zeroValue349
  t212 := Tryz.underlying372
  a212 := Tryz.isAgg372
  z212 := Tryz.sizeOf372
  v212 := Tryz.zeroValue372
  t213 := Tryz.underlying373
  a213 := Tryz.isAgg373
  z213 := Tryz.sizeOf373
  t232 := Tryz.underlying110
  a232 := Tryz.isAgg110
  z232 := Tryz.sizeOf110
  v232 := Tryz.zeroValue110
  t233 := Tryz.underlying384
  a233 := Tryz.isAgg384
  z233 := Tryz.sizeOf384
  v233 := Tryz.zeroValue384
  g17 := by kernel_rfl
  g18 := by kernel_rfl
  g19 := by kernel_rfl
  i0 := by kernel_rfl
  i2 := by kernel_rfl
  i3 := by kernel_rfl
  i4 := by kernel_rfl
  i5 := by kernel_rfl
  i9 := by kernel_rfl
  i20 := by kernel_rfl
  i37 := by kernel_rfl
  i46 := by kernel_rfl
  i51 := by kernel_rfl
  i53 := by kernel_rfl
  i171 := by kernel_rfl
  i173 := by kernel_rfl
  i212 := by kernel_rfl
  i232 := by kernel_rfl
  i233 := by kernel_rfl
  m17 := by kernel_rfl
  m18 := by kernel_rfl
  m19 := by kernel_rfl }
end Go.Proofs
namespace Go.Proofs.YtagmkfbbhfaceaaGreatDoor
open Go Go.RowKit Go.Proofs.Tryz Go.Shelf
def encStr (x : List UInt8) : List Value := [.string (strB x)]
theorem extraJ : Builder.Extra Tryz.prog layJoin_ren where
  sizeBuilder := by kernel_rfl
  liesBuilder := by kernel_rfl
  t5 := underlying5
  a5 := isAgg5
  z5 := sizeOf5
  v5 := zeroValue5
  infoByte := by kernel_rfl
  cellsByte := by kernel_rfl
  sizeByte := by kernel_rfl
  neB5 := by decide
/-- The table of powers of ten that strconv reads. -/
def Tab10 (w : World) : Prop := Lib.TabIs Tryz.prog w "internal/strconv.uint64pow10" .u64 Lib.pow10Tab
theorem grow_ext (w : World) (k : Nat) (os : Array Obj) : Ext w (Go.Sort.grow (w.drewN k) os) := by
  refine ⟨rfl, rfl, rfl, ?_, fun i hi _ => ?_⟩
  · show w.heap.size ≤ (w.heap ++ os).size
    rw [Array.size_append]; omega
  · show (w.heap ++ os)[i]? = w.heap[i]?
    rw [Array.getElem?_append_left hi]
theorem Tab10.keep {w w' : World} {S : Nat → Prop} (h : Tab10 w) (u : Upd S w w') (hS : ∀ g, Tryz.prog.globalNamed "internal/strconv.uint64pow10" = some g → ¬ S g) : Tab10 w' := by
  unfold Tab10 Lib.TabIs World.var? at *
  cases hg : Tryz.prog.globalNamed "internal/strconv.uint64pow10" with
  | none => rw [hg] at h; cases h
  | some g =>
    rw [hg] at h
    have h : (match w.heap[g]? with | some (.cells cs _ _) => some cs | _ => none) = some (Lib.pow10Tab.map fun z => Value.int .u64 z).toArray := h
    show (match w'.heap[g]? with | some (.cells cs _ _) => some cs | _ => none) = some (Lib.pow10Tab.map fun z => Value.int .u64 z).toArray
    have hlt : g < w.heap.size := by
      rcases Nat.lt_or_ge g w.heap.size with q | q
      · exact q
      · rw [Array.getElem?_eq_none q] at h; cases h
    rw [u.block g hlt (hS g hg)]
    exact h
theorem Tab10.ext {w w' : World} (h : Tab10 w) (u : Ext w w') : Tab10 w' := h.keep u (fun _ _ h => h)
theorem itoa_c (n : Int) (w0 : World) (hn : -9223372036854775808 ≤ n ∧ n ≤ 9223372036854775807) (ht : Tab10 w0) : CallsV Tryz.prog 147 [.int .i64 n] w0 fun v w' => v = .string (strB (Lib.itoa n)) ∧ Ext w0 w' := by
  refine Calls.mono (Any.strconv_Itoa layItoa n hn.1 hn.2 w0 ht) ?_
  rintro e w' ⟨rfl, k, os, rfl⟩
  exact ⟨_, rfl, rfl, grow_ext w0 k os⟩
theorem strB_data (l : List UInt8) : (strB l).data.toList = l := by simp [strB]
theorem join_c (xs : List (List UInt8)) (sep : List UInt8) (ao : Option Addr) (b o c : Nat) (w0 : World) (hs : Sl encStr 1 w0 ao b o xs) (hc : xs.length ≤ c) (hl : (Lib.join xs sep).length ≤ 1000000) (hn : xs.length ≤ 1000000) : CallsV Tryz.prog 187 [.slice ao xs.length c, .string (strB sep)] w0 fun v w' => v = .string (strB (Lib.join xs sep)) ∧ Ext w0 w' := by
  have em : (xs.map strB).map (·.data.toList) = xs := by
    rw [List.map_map]
    conv => rhs; rw [← List.map_id xs]
    exact List.map_congr_left fun x _ => strB_data x
  rcases Nat.eq_zero_or_pos xs.length with h0 | h0
  · have h0 : xs = [] := List.eq_nil_of_length_eq_zero h0
    subst h0
    refine Calls.mono (Any.strings_Join_none layJoin extraJ ao c (strB sep) w0) ?_
    rintro e w' ⟨rfl, rfl⟩
    exact ⟨_, rfl, rfl, Upd.refl _ _⟩
  · have ha := hs.addr h0
    subst ha
    have h := Any.strings_Join layJoin extraJ b o c (xs.map strB) (strB sep) w0 (fun j x hj => by
        rw [List.getElem?_map] at hj
        cases hx : xs[j]? with
        | none => rw [hx] at hj; cases hj
        | some y =>
          rw [hx] at hj
          injection hj with hj
          obtain ⟨h1, h2⟩ := List.getElem?_eq_some_iff.1 hx
          have h9 := hs.at_ j h1 0 (.string (strB (nth xs j))) rfl
          rw [nth_eq h1, h2, hj] at h9
          simpa using h9) (hs.lt h0) (by rw [List.length_map]; omega) (by rw [List.length_map]; exact hc) (by rw [em, strB_data]; omega)
    rw [List.length_map] at h
    refine Calls.mono h ?_
    rintro e w' ⟨rfl, hb⟩
    exact ⟨_, rfl, by rw [em, strB_data]; rfl, Below.ext hb⟩
/-- A builder's block, all of it from B on. -/
def BuiM (B b : Nat) (l : List UInt8) (w : World) : Prop := Lib.IsBuilder 214 5 B b (Lib.byteCells l) w
theorem wstr_c (B b : Nat) (l s : List UInt8) (w0 : World) (h : BuiM B b l w0) (hl : l.length + s.length ≤ 1000000000) (hB : B ≤ w0.heap.size) : CallsV Tryz.prog 109 [.pointer (some ⟨b, 0, none⟩), .string (strB s)] w0 fun _ w' => BuiM B b (l ++ s) w' ∧ Upd (fun i => B ≤ i) w0 w' := by
  refine Calls.mono (Any.Builder_WriteString { layJoin with } extraJ B b (Lib.byteCells l) (strB s) w0 h (by rw [Lib.byteCells_length, strB_size]; omega) hB) ?_
  rintro e w' ⟨rfl, hb, hw⟩
  refine ⟨_, rfl, .inr ?_, hw.os, hw.tape, hw.output, hw.size, fun k _ hn => hw.block k (by omega)⟩
  have e : Lib.byteCells (l ++ s) = Lib.byteCells l ++ Lib.strCells (strB s) := by simp [Lib.byteCells, Lib.strCells, strB]
  rw [e]; exact hb
theorem bstr_c (B b : Nat) (l : List UInt8) (w0 : World) (h : BuiM B b l w0) (hB : B ≤ w0.heap.size) : CallsV Tryz.prog 110 [.pointer (some ⟨b, 0, none⟩)] w0 fun v w' => v = .string (strB l) ∧ Upd (fun i => B ≤ i) w0 w' := by
  refine Calls.mono (Any.Builder_String_any { layJoin with } extraJ B b l w0 h hB) ?_
  rintro e w' ⟨rfl, hw⟩
  exact ⟨_, rfl, rfl, hw.os, hw.tape, hw.output, hw.size, fun k _ hn => hw.block k (by omega)⟩

end Go.Proofs.YtagmkfbbhfaceaaGreatDoor
namespace Go.Proofs.YtagmkfbbhfaceaaGreatDoor
open Go Go.RowKit Go.Proofs.Tryz
set_option maxRecDepth 10000
/-! ### bills of lading -/
structure Bil where
  n : Int
  c : Int
  t : Int
  f : Int
  o : Int
  s : List Int
  ao : Option Addr
  g : Nat
  ob : Nat
  cp : Nat
instance : Inhabited Bil := ⟨⟨0, 0, 0, 0, 0, [], none, 0, 0, 0⟩⟩
/-- a line with its check letters -/
def sealP (s : List UInt8) : List UInt8 := s ++ [UInt8.ofNat (97 + weighP s 673 / 26).toNat] ++ [UInt8.ofNat (97 + weighP s 673 % 26).toNat] ++ [10]
def sealedP (ws : List (List UInt8)) : List UInt8 := sealP (Lib.join ws [32] ++ [32])
theorem weighP_r (l : List UInt8) : 0 ≤ weighP l 673 ∧ weighP l 673 ≤ 672 := by unfold weighP; omega
theorem sealP_len (s : List UInt8) : (sealP s).length = s.length + 3 := by simp [sealP]
theorem join_len (sep : List UInt8) (m : Nat) : ∀ xs : List (List UInt8), (∀ x ∈ xs, x.length ≤ m) → (Lib.join xs sep).length ≤ xs.length * (m + sep.length)
  | [], _ => by simp [Lib.join_nil]
  | x :: r, h => by
    rw [Lib.join_length]
    have hl : ∀ ys : List (List UInt8), (∀ y ∈ ys, y.length ≤ m) → Lib.lens ys ≤ ys.length * m := fun ys => by
      induction ys with
      | nil => intro _; simp [Lib.lens]
      | cons y ys ih =>
        intro hy
        have h1 := ih fun z hz => hy z (List.mem_cons_of_mem _ hz)
        have h2 := hy y (List.mem_cons_self ..)
        have e : Lib.lens (y :: ys) = y.length + Lib.lens ys := by simp [Lib.lens]
        rw [e, List.length_cons, Nat.succ_mul]; omega
    have h1 := hl (x :: r) h
    have h2 : sep.length * r.length ≤ (x :: r).length * sep.length := by rw [Nat.mul_comm]; exact Nat.mul_le_mul_right _ (by simp)
    rw [Nat.mul_add]; omega
theorem itoa_len {n : Int} (h : -1000000000 ≤ n ∧ n ≤ 1000000000) : (Lib.itoa n).length ≤ 21 := Lib.itoa_length_le n (by omega) (by omega)
theorem SlStr.own {xs : List (List UInt8)} {w : World} {b : Nat} {t : TypeId} (h : Blk w b t (xs.flatMap encStr)) : Sl encStr 1 w (some ⟨b, 0, none⟩) b 0 xs := by
  refine ⟨fun _ => rfl, fun _ => h.lt, fun i hi => ?_⟩
  intro j v hv
  have hj : j = 0 := by
    have := (List.getElem?_eq_some_iff.1 hv).1
    simp [encStr] at this; exact this
  subst hj
  have hv : v = .string (strB (nth xs i)) := by simpa [encStr] using hv.symm
  subst hv
  refine h.get ?_
  rw [Nat.zero_add, Nat.mul_one, Nat.add_zero]
  have e : xs.flatMap encStr = xs.map (fun x => Value.string (strB x)) := by
    clear h hv hi
    induction xs with
    | nil => rfl
    | cons x xs ih => rw [List.flatMap_cons, List.map_cons, ih]; rfl
  rw [e, List.getElem?_map, List.getElem?_eq_getElem hi, nth_eq hi]; rfl
theorem sealed_c (ws : List (List UInt8)) (ao : Option Addr) (b o cap : Nat) (w0 : World) (hs : Sl encStr 1 w0 ao b o ws) (hcap : ws.length ≤ cap) (hwl : ws.length ≤ 1000) (hjl : (Lib.join ws [32]).length ≤ 90000) :
    CallsV Tryz.prog 148 [.slice ao ws.length cap] w0 (fun v w' => v = .string (strB (sealedP ws)) ∧ Ext w0 w') := by
 have hwr := weighP_r (Lib.join ws [32] ++ [32])
 have hsl9 : (Lib.join ws [32] ++ [32]).length = (Lib.join ws [32]).length + 1 := by simp
 refine f_n func148 ?_
 refine go ?_
 refine x_c func187 rfl rfl (join_c ws ([32]) ao b o cap _ hs hcap (by omega) (by omega)) ?_
 rintro _ w4 ⟨rfl, u5⟩ zu5
 refine t_bo (Bo.addS (by simp only [List.length_cons, List.length_nil]; omega)) rfl rfl rfl rfl ?_
 refine go ?_
 refine t_toB underlying9 underlying24 underlying5 rfl rfl rfl (fun bk9 cp10 w11 ebk9 sbk9 B12 u13 => ?_)
 refine x_c func125 rfl rfl (weigh_c ((Lib.join ws ([32])) ++ [32]) (some ⟨bk9, 0, none⟩) bk9 0 cp10 673 _ (B12.sl) (by omega) (by decide)) ?_
 rintro _ w16 ⟨rfl, u17⟩ zu17
 refine go ?_
 refine t_quo rfl rfl rfl rfl (by omega) (by omega) ?_
 refine go ?_
 refine t_conv underlying3 underlying21 rfl rfl rfl (IntWalk.i32_in _ (by omega)) (t_same 15 (v := .int .i32 ((97 + weighP (Lib.join ws [32] ++ [32]) 673 / 26).toNat : Int)) rfl (congrArg (Value.int .i32) (by omega)) (t_ofRune ((97 + weighP (Lib.join ws [32] ++ [32]) 673 / 26).toNat) (by kernel_rfl) underlying9 rfl rfl rfl rfl (by omega) (t_bo (Bo.addS (by simp only [List.length_append, List.length_cons, List.length_nil]; omega)) rfl rfl rfl rfl ?_)))
 refine go ?_
 refine t_rem rfl rfl rfl rfl (by omega) (by omega) ?_
 refine go ?_
 refine t_conv underlying3 underlying21 rfl rfl rfl (IntWalk.i32_in _ (by omega)) (t_same 21 (v := .int .i32 ((97 + weighP (Lib.join ws [32] ++ [32]) 673 % 26).toNat : Int)) rfl (congrArg (Value.int .i32) (by omega)) (t_ofRune ((97 + weighP (Lib.join ws [32] ++ [32]) 673 % 26).toNat) (by kernel_rfl) underlying9 rfl rfl rfl rfl (by omega) (t_bo (Bo.addS (by simp only [List.length_append, List.length_cons, List.length_nil]; omega)) rfl rfl rfl rfl (t_bo (Bo.addS (by simp only [List.length_append, List.length_cons, List.length_nil]; omega)) rfl rfl rfl rfl ?_))))
 refine go ?_
 refine f_1 results148 ?_
 exact ⟨rfl, u_d⟩

end Go.Proofs.YtagmkfbbhfaceaaGreatDoor
namespace Go.Proofs.YtagmkfbbhfaceaaGreatDoor
open Go Go.RowKit
set_option maxRecDepth 10000
end Go.Proofs.YtagmkfbbhfaceaaGreatDoor
namespace Go.Proofs.YtagmkfbbhfaceaaGreatDoor
open Go Go.RowKit
set_option maxRecDepth 10000
theorem BuiM.new {w : World} {b : Nat} (h : Blk w b 214 [.pointer none, .slice none 0 0]) : BuiM b b [] w :=
  .inl ⟨Nat.le_refl _, .slice none 0 0, by unfold Blk at h; simpa using h, ⟨rfl, .inl ⟨rfl, rfl⟩⟩, by simp [Value.ownBlock]⟩
theorem BuiM.ext {B b : Nat} {l : List UInt8} {w w' : World} (h : BuiM B b l w) (u : Ext w w') : BuiM B b l w' := by
  have key : ∀ p, Lib.BuilderAt 214 5 B b p (Lib.byteCells l) w → Lib.BuilderAt 214 5 B b p (Lib.byteCells l) w' := fun p hp => by
    obtain ⟨h1, v, h2, ⟨h3, h4⟩, h5⟩ := hp
    refine ⟨h1, v, (u.block b (lt_of_block h2) id).trans h2, ⟨h3, ?_⟩, h5⟩
    rcases h4 with h4 | ⟨g, cap, cur, e1, e2, e3, e4⟩
    · exact .inl h4
    · exact .inr ⟨g, cap, cur, e1, e2, (u.block g (lt_of_block e3) id).trans e3, e4⟩
  rcases h with h | h
  · exact .inl (key _ h)
  · exact .inr (key _ h)
end Go.Proofs.YtagmkfbbhfaceaaGreatDoor
namespace Go.Proofs.YtagmkfbbhfaceaaGreatDoor
open Go Go.RowKit Go.Proofs.Tryz
set_option maxRecDepth 10000
theorem Sl.ofBlk {α : Type} [Inhabited α] {enc : α → List Value} {k : Nat} (hk : ∀ x, (enc x).length = k) {w : World} {b : Nat} {t : TypeId} {xs : List α} (h : Blk w b t (xs.flatMap enc)) : Sl enc k w (some ⟨b, 0, none⟩) b 0 xs :=
  ⟨fun _ => rfl, fun _ => h.lt, fun i hi j v hv => by
    have h1 := flatMap_at hk xs i j v hi hv
    rw [Nat.zero_add]
    exact h.get h1⟩
/-! ### The document's examples -/
def knE1 : List Ent := [⟨2, 1, 1, 3, 0, 0⟩]
theorem kn_log1 : chkE knE1 = 0 := by kernel_rfl
theorem kn_log2 : (logP knE1).length = 64 ∧ nth (logP knE1) 0 = 142 ∧ nth (logP knE1) 1 = 64 ∧ nth (logP knE1) 30 = 1 ∧ nth (logP knE1) 31 = 14 ∧ nth (logP knE1) 62 = 4 ∧ nth (logP knE1) 63 = 223 := ⟨by kernel_rfl, by kernel_rfl, by kernel_rfl, by kernel_rfl, by kernel_rfl, by kernel_rfl, by kernel_rfl⟩
theorem knLog_c (b : Nat) (w0 : World) (hB : Blk w0 b 41 [.int .i64 2, .int .i64 1, .int .i64 1, .int .i64 3, .int .i64 0, .int .i64 0]) : CallsV Tryz.prog 9 [.slice (some ⟨b, 0, none⟩) 1 1] w0 fun v w' => (∃ a9 g9 c9, v = .tuple #[.slice a9 64 c9, .int .i64 0] ∧ Acc encY 1 5 w0.heap.size w' a9 g9 c9 (logP knE1)) ∧ Ext w0 w' := by
  have h := WriteLog_c knE1 (some ⟨b, 0, none⟩) b 0 1 w0 (Sl.ofBlk (enc := encEnt) (k := 6) (xs := knE1) (fun _ => rfl) hB) (by decide) (by have := hB.lt; omega)
  rw [kn_log1, kn_log2.1] at h
  exact h
end Go.Proofs.YtagmkfbbhfaceaaGreatDoor
namespace Go.Proofs.YtagmkfbbhfaceaaGreatDoor
open Go Go.RowKit
/-- How keys and values of a map are laid. -/
structure Cod (α β : Type) where
  k : α → Value
  v : β → Value
def kvG {α β : Type} (c : Cod α β) (p : α × β) : Value × Value := (c.k p.1, c.v p.2)
/-- In block r lies a map with these keys and values. -/
def MapG {α β : Type} (cd : Cod α β) (m : List (α × β)) (w : World) (r : Nat) : Prop := ∃ es c, w.heap[r]? = some (.map es c) ∧ es.toList.map (fun e => (e.key, e.val)) = m.map (kvG cd) ∧ (∀ e ∈ es.toList, e.born < c) ∧ (es.toList.map (·.born)).Nodup
section
variable {α β : Type} {cd : Cod α β}
theorem MapG.lt {m : List (α × β)} {w : World} {r : Nat} (h : MapG cd m w r) : r < w.heap.size := by obtain ⟨es, c, h, _⟩ := h; exact lt_of_block h
theorem MapG.keep {m : List (α × β)} {w w' : World} {r : Nat} {S : Nat → Prop} (h : MapG cd m w r) (u : Upd S w w') (hn : ¬ S r) : MapG cd m w' r := by
  obtain ⟨es, c, h1, h2⟩ := h
  exact ⟨es, c, (u.block r (lt_of_block h1) hn).trans h1, h2⟩
end
/-- Where a key stands, and its value. -/
def fG {α β : Type} [DecidableEq α] : List (α × β) → α → Nat → Option (Nat × β)
  | [], _, _ => none
  | p :: m, a, i => if a = p.1 then some (i, p.2) else fG m a (i + 1)
def gtG {α β : Type} [DecidableEq α] (m : List (α × β)) (a : α) : Option β := (fG m a 0).map (·.2)
def upG {α β : Type} [DecidableEq α] (m : List (α × β)) (a : α) (v : β) : List (α × β) := match fG m a 0 with
  | none => m ++ [(a, v)]
  | some p => m.set p.1 (a, v)
/-- What the key's type must know: whether two keys are one. -/
structure KeyOK (P : Program) (K : TypeId) {α β : Type} [DecidableEq α] (cd : Cod α β) : Prop where
  find : ∀ (m : List (α × β)) (es : List MapEntry) (a : α) (w : World), es.map (fun e => (e.key, e.val)) = m.map (kvG cd) → (Instr.findKey K (cd.k a) es).run P w = .ok ((fG m a 0).map fun p => (p.1, cd.v p.2)) w
  check : ∀ (em : Bool) (a : α) (w : World), (Instr.checkKey em 10000 K (cd.k a)).run P w = .ok () w
  stays : ∀ (a : α) (w : World), (Instr.keyThatStays (cd.k a) (cd.k a)).run P w = .ok (cd.k a) w
section
variable {α β : Type} [DecidableEq α] {cd : Cod α β}
end
section
variable {P : Program} {α β : Type} [DecidableEq α]
theorem findNowG {v : β → Value} {a : Int} : ∀ (m : List (Int × β)) (es : List MapEntry) (i : Nat), es.map (fun e => (e.key, e.val)) = m.map (kvG ⟨.int .i64, v⟩) → Instr.findNow (.int .i64) (.int .i64 a) es i = some ((fG m a i).map fun p => (p.1, v p.2))
  | [], [], i, _ => rfl
  | [], _ :: _, _, h => by simp at h
  | _ :: _, [], _, h => by simp at h
  | p :: m, e :: es, i, h => by
    simp only [List.map_cons, List.cons.injEq, kvG, Prod.mk.injEq] at h
    obtain ⟨⟨hk, hv⟩, h⟩ := h
    have ih := findNowG (a := a) m es (i + 1) h
    by_cases q : a = p.1
    · simp [Instr.findNow, hk, hv, Instr.sameNow, fG, q]
    · have hs : Instr.sameNow (.int .i64) (.int .i64 a) e.key = some false := by rw [hk]; simp [Instr.sameNow, q]
      rw [Instr.findNow, hs]
      simp only [fG, if_neg q]
      exact ih
theorem checkKeyN {K : TypeId} (hK : P.underlying K = some (.int .i64)) (em : Bool) (n : Nat) (a : Int) (w : World) : (Instr.checkKey em (n + 1) K (.int .i64 a)).run P w = .ok () w := by
  simp [Instr.checkKey, run_underlying hK]
theorem KeyOK.int {K : TypeId} (hK : P.underlying K = some (.int .i64)) (v : β → Value) : KeyOK P K (⟨.int .i64, v⟩ : Cod Int β) :=
  ⟨fun m es a w h => by simp [Instr.findKey, run_underlying hK, findNowG m es 0 h], fun em a w => checkKeyN hK em 9999 a w, fun a w => by simp [Instr.keyThatStays, Instr.sameBits]⟩
end
section steps
variable {rd : Option Nat} {P : Program} {ops : Array Oper} {Q : Exit → Act → World → Prop} {N : Nat} {ds : List Deferred} {rest : List Oper} {L : Slots} {w : World}
variable {α β : Type} [DecidableEq α] {cd : Cod α β}
variable {d : Nat} {ty : TypeId} {pos : String} {aft : Array Edge} {g : Option (Nat × Bool)}
end steps
section steps2
variable {rd : Option Nat} {P : Program} {ops : Array Oper} {Q : Exit → Act → World → Prop} {N : Nat} {ds : List Deferred} {rest : List Oper} {L : Slots} {w : World}
variable {α β : Type} {cd : Cod α β}
variable {d : Nat} {ty : TypeId} {pos : String} {aft : Array Edge} {g : Option (Nat × Bool)}
/-- A range over the map in block r is under way, its iterator lies in block it; these entries are to come. -/
def ItG {α β : Type} (cd : Cod α β) (m left : List (α × β)) (w : World) (r it : Nat) : Prop := ∃ es c since seen c0, w.heap[r]? = some (.map es c) ∧ es.toList.map (fun e => (e.key, e.val)) = m.map (kvG cd) ∧ (es.toList.map (·.born)).Nodup ∧ w.heap[it]? = some (.mapIter (some r) since seen c0) ∧ (∀ e ∈ es.toList, e.born < since) ∧ since ≤ c0 ∧ since ≤ c ∧ (leftOf es seen).toList.map (fun e => (e.key, e.val)) = left.map (kvG cd)
theorem ItG.keep {m left : List (α × β)} {w w' : World} {r it : Nat} {S : Nat → Prop} (h : ItG cd m left w r it) (u : Upd S w w') (h1 : ¬ S r) (h2 : ¬ S it) : ItG cd m left w' r it := by
  obtain ⟨es, c, since, seen, c0, q1, q2, q3, q4, q5⟩ := h
  exact ⟨es, c, since, seen, c0, (u.block r (lt_of_block q1) h1).trans q1, q2, q3, (u.block it (lt_of_block q4) h2).trans q4, q5⟩
theorem ItG.same {m left : List (α × β)} {w w' : World} {r it : Nat} (h : ItG cd m left w r it) (h1 : w'.heap[r]? = w.heap[r]?) (h2 : w'.heap[it]? = w.heap[it]?) : ItG cd m left w' r it := by
  obtain ⟨es, c, since, seen, c0, q1, q2, q3, q4, q5⟩ := h
  exact ⟨es, c, since, seen, c0, h1.trans q1, q2, q3, h2.trans q4, q5⟩
theorem ItG.map {m left : List (α × β)} {w : World} {r it : Nat} (h : ItG cd m left w r it) : ∃ a b, w.heap[r]? = some (.map a b) := by obtain ⟨es, c, since, seen, c0, q1, q2, q3, q4, q5⟩ := h; exact ⟨_, _, q1⟩
end steps2
end Go.Proofs.YtagmkfbbhfaceaaGreatDoor
namespace Go.Proofs.YtagmkfbbhfaceaaGreatDoor
open Go Go.RowKit Go.Proofs.Tryz
set_option maxRecDepth 10000
/-! ### a season: the map of tons, and sums -/
section
variable {α β : Type} [DecidableEq α]
def upR (a : α) (v : β) : List (α × β) → List (α × β)
  | [] => [(a, v)]
  | p :: m => if a = p.1 then (a, v) :: m else p :: upR a v m
def gtR (a : α) : List (α × β) → Option β
  | [] => none
  | p :: m => if a = p.1 then some p.2 else gtR a m
theorem fG_shift (a : α) : ∀ (m : List (α × β)) (i : Nat), fG m a (i + 1) = (fG m a i).map fun p => (p.1 + 1, p.2)
  | [], _ => rfl
  | p :: m, i => by
    unfold fG
    split
    · rfl
    · exact fG_shift a m (i + 1)
theorem gtG_eq (a : α) : ∀ (m : List (α × β)), gtG m a = gtR a m
  | [] => rfl
  | p :: m => by
    unfold gtG fG gtR
    split
    · rfl
    · rw [fG_shift, ← gtG_eq a m]
      unfold gtG
      cases fG m a 0 <;> rfl
theorem upG_eq (a : α) (v : β) : ∀ (m : List (α × β)), upG m a v = upR a v m
  | [] => rfl
  | p :: m => by
    have ih := upG_eq a v m
    unfold upG fG upR
    by_cases q : a = p.1
    · simp [q]
    · simp only [if_neg q]
      rw [fG_shift, ← ih]
      unfold upG
      cases fG m a 0 <;> rfl
theorem gtR_upR (a : α) (v : β) (b : α) : ∀ (m : List (α × β)), gtR b (upR a v m) = if b = a then some v else gtR b m
  | [] => by
    unfold upR gtR
    split <;> rfl
  | p :: m => by
    unfold upR
    split
    · rename_i e
      unfold gtR
      by_cases q : b = a
      · simp [q]
      · rw [if_neg q, if_neg q, if_neg (by rw [← e]; exact q)]
    · rename_i e
      rw [gtR, gtR_upR a v b m]
      by_cases q : b = a
      · subst q; rw [if_neg e, if_pos rfl, if_pos rfl]
      · rw [if_neg q, if_neg q, ← gtR]
end
def gI (m : List (Int × Int)) (b : Int) : Int := (gtG m b).getD 0
theorem gI_up (m : List (Int × Int)) (a v b : Int) : gI (upG m a v) b = if b = a then v else gI m b := by
  unfold gI
  rw [gtG_eq, gtG_eq, upG_eq, gtR_upR]
  split <;> rfl
section
variable {rd : Option Nat} {P : Program} {ops : Array Oper} {Q : Exit → Act → World → Prop} {N : Nat} {ds : List Deferred} {rest : List Oper} {L : Slots} {w : World}
variable {d : Nat} {ty : TypeId} {pos : String} {aft : Array Edge} {g : Option (Nat × Bool)}
end
theorem tonP_le {b : Int} : ∀ {c : List Crg}, (∀ x ∈ c, 0 ≤ x.t) → 0 ≤ tonP b c ∧ tonP b c ≤ tonP 0 c
  | [], _ => by simp [tonP]
  | x :: c, h => by
    have h1 := tonP_le (b := b) (c := c) (fun y hy => h y (List.mem_cons_of_mem _ hy))
    have h2 := h x List.mem_cons_self
    simp only [tonP, true_or, if_true]
    split <;> omega
def allR (b : Int) (rs : List HR) : Int := allT b (rs.map HR.hul)
theorem allT_range {b : Int} : ∀ {l : List Hul}, (∀ h ∈ l, (∀ x ∈ h.c, 0 ≤ x.t) ∧ tonP 0 h.c ≤ 100000) → 0 ≤ allT b l ∧ allT b l ≤ 100000 * (l.length : Int)
  | [], _ => by simp [allT]
  | h :: l, hh => by
    have h1 := allT_range (b := b) (l := l) (fun y hy => hh y (List.mem_cons_of_mem _ hy))
    have h2 := hh h List.mem_cons_self
    have h3 := tonP_le (b := b) h2.1
    simp only [allT, List.length_cons]; omega
/-- The tons in a map. -/
def MapT (m : List (Int × Int)) (F : Int → Int) : Prop := ∀ b, b ≠ 0 → gI m b = F b
theorem MapT.up {m : List (Int × Int)} {F G : Int → Int} {a v : Int} (h : MapT m F) (ha : v = G a) (hG : ∀ b, b ≠ 0 → b ≠ a → G b = F b) : MapT (upG m a v) G := fun b hb => by
  rw [gI_up]
  by_cases q : b = a
  · rw [if_pos q, q, ha]
  · rw [if_neg q, h b hb, hG b hb q]
theorem CgOk.pos {T : Int} {c : List Crg} (h : CgOk T c) : ∀ x ∈ c, 0 ≤ x.t := fun x hx => by have := h.2 x hx; omega
theorem CgOk.at_ {T : Int} {c : List Crg} {k : Nat} (h : CgOk T c) (hk : k < c.length) : (1 ≤ (nth c k).b ∧ (nth c k).b ≤ 9999) ∧ (1 ≤ (nth c k).t ∧ (nth c k).t ≤ T) := h.2 _ (nth_mem hk)
theorem CgOk.sum {T : Int} {c : List Crg} (h : CgOk T c) (hT : 0 ≤ T ∧ T ≤ 1000000000) (b : Int) : 0 ≤ tonP b c ∧ tonP b c ≤ 10000000000000 := by
  suffices ∀ l : List Crg, (∀ x ∈ l, 0 ≤ x.t ∧ x.t ≤ 1000000000) → 0 ≤ tonP b l ∧ tonP b l ≤ 1000000000 * (l.length : Int) by
    have h1 := this c (fun x hx => by have := h.2 x hx; omega)
    have h2 := h.len
    omega
  intro l
  induction l with
  | nil => intro _; simp [tonP]
  | cons x l ih =>
    intro hl
    have h1 := ih (fun y hy => hl y (List.mem_cons_of_mem _ hy))
    have h2 := hl x List.mem_cons_self
    simp only [tonP, List.length_cons]
    split <;> omega
theorem SeaOk.hulls {T : Int} {V : SG} (h : SeaOk T V.st) (b : Int) (i : Nat) : 0 ≤ allR b (V.rs.take i) ∧ allR b (V.rs.take i) ≤ 100000 * (V.rs.length : Int) := by
  have h1 : ∀ y ∈ (V.rs.take i).map HR.hul, (∀ x ∈ y.c, 0 ≤ x.t) ∧ tonP 0 y.c ≤ 100000 := fun y hy => by
    obtain ⟨r, hr, rfl⟩ := List.mem_map.1 hy
    have h2 := h.hul (HR.hul r) (List.mem_map.2 ⟨r, List.mem_of_mem_take hr, rfl⟩)
    exact ⟨h2.2.2.1.pos, h2.2.2.2⟩
  have h3 := allT_range (b := b) h1
  unfold allR
  rw [List.length_map, List.length_take] at h3
  omega
/-! ### a season: replays, one by one and all together -/
/-- A list with one entry that lies in a block of its own. -/
theorem Sl.one {x : Ent} {w : World} {b : Nat} (h : Blk w b 41 [.int .i64 x.m, .int .i64 x.k, .int .i64 x.h, .int .i64 x.p, .int .i64 x.b, .int .i64 x.t]) : Sl encEnt 6 w (some ⟨b, 0, none⟩) b 0 [x] := Sl.ofBlk (enc := encEnt) (k := 6) (xs := [x]) (fun _ => rfl) h
theorem SeaOk.parts {T : Int} {V : SG} (h : SeaOk T V.st) : V.rs.length ≤ 999 ∧ V.ld.length ≤ 9999 ∧ V.un.length ≤ 9999 ∧ ∀ r ∈ V.rs, r.c.length ≤ 9999 := ⟨h.rlen, h.ld.len, h.un.len, fun r hr => (h.rhul r hr).2.2.1.len⟩
theorem Bal.at_ {V : SG} (h : Bal V.st) (b : Int) : allR b V.rs + tonP b V.un = tonP b V.ld := h b
end Go.Proofs.YtagmkfbbhfaceaaGreatDoor
namespace Go.Proofs.YtagmkfbbhfaceaaGreatDoor
open Go Go.RowKit
set_option maxRecDepth 10000





end Go.Proofs.YtagmkfbbhfaceaaGreatDoor
namespace Go.Proofs.YtagmkfbbhfaceaaGreatDoor
open Go Go.RowKit
set_option maxRecDepth 10000
end Go.Proofs.YtagmkfbbhfaceaaGreatDoor
namespace Go.Proofs.YtagmkfbbhfaceaaGreatDoor
open Go Go.RowKit
set_option maxRecDepth 10000
/-! ### a log's closed form: chunks of 240 digits, blocks out of them, groups of four blocks and their parity -/
def nextG (s : List Bk × Bk) (d : Bk) : List Bk × Bk :=
  if (s.1.length + 1) % 5 = 4 then (s.1 ++ [d.shutB s.1.length] ++ [(s.2.mix d).shutB (s.1.length + 1)], zeroBk) else (s.1 ++ [d.shutB s.1.length], s.2.mix d)
def endG (s : List Bk × Bk) : List Bk := if s.1.length % 5 ≠ 0 then s.1 ++ [s.2.shutB s.1.length] else s.1
def putBits (d : Bk) (n : Nat) : List UInt8 → Bk
  | [] => d
  | c :: r => putBits (putBit d n c) (n + 1) r
def blkOf (c : List UInt8) : Bk := putBits zeroBk 0 c
def chunkN : Nat → List UInt8 → List (List UInt8)
  | 0, t => [t]
  | n + 1, t => if t.length ≤ 240 then [t] else t.take 240 :: chunkN n (t.drop 240)
/-- digits in chunks of 240 -/
def chunk (t : List UInt8) : List (List UInt8) := chunkN t.length t
theorem chunkN_eq : ∀ (n : Nat) (t : List UInt8), t.length ≤ n → chunkN n t = if t.length ≤ 240 then [t] else t.take 240 :: chunk (t.drop 240) := by
  have key : ∀ (n m : Nat) (t : List UInt8), t.length ≤ n → t.length ≤ m → chunkN n t = chunkN m t := by
    intro n
    induction n with
    | zero =>
      intro m t h _
      cases m with
      | zero => rfl
      | succ m => show [t] = _; unfold chunkN; rw [if_pos (by omega)]
    | succ n ih =>
      intro m t h1 h2
      cases m with
      | zero => conv => lhs; unfold chunkN
                rw [if_pos (by omega)]; rfl
      | succ m =>
        conv => lhs; unfold chunkN
        conv => rhs; unfold chunkN
        split
        · rfl
        · rw [ih m (t.drop 240) (by rw [List.length_drop]; omega) (by rw [List.length_drop]; omega)]
  intro n t h
  rw [key n (t.length + 1) t h (by omega)]
  conv => lhs; unfold chunkN
  split
  · rfl
  · rw [key t.length (t.drop 240).length (t.drop 240) (by rw [List.length_drop]; omega) (Nat.le_refl _)]; rfl
theorem chunk_eq (t : List UInt8) : chunk t = if t.length ≤ 240 then [t] else t.take 240 :: chunk (t.drop 240) := chunkN_eq t.length t (Nat.le_refl _)
theorem nextF_eq (s : Fs) : nextF s = ⟨(nextG (s.v, s.p) s.d).1, (nextG (s.v, s.p) s.d).2, zeroBk, 0⟩ := by
  unfold nextF nextG
  split <;> rfl
theorem stepF_lt {s : Fs} (h : s.n ≠ 240) (c : UInt8) : stepF s c = ⟨s.v, s.p, putBit s.d s.n c, s.n + 1⟩ := by
  unfold stepF fullF; rw [if_neg h]
theorem fold_step : ∀ (t : List UInt8) (s : Fs), s.n + t.length ≤ 240 → t.foldl stepF s = ⟨s.v, s.p, putBits s.d s.n t, s.n + t.length⟩
  | [], s, _ => rfl
  | c :: r, s, h => by
    have h : s.n + (r.length + 1) ≤ 240 := h
    rw [List.foldl_cons, stepF_lt (by omega), fold_step r _ (by show s.n + 1 + r.length ≤ 240; omega)]
    show (⟨s.v, s.p, putBits (putBit s.d s.n c) (s.n + 1) r, s.n + 1 + r.length⟩ : Fs) = ⟨s.v, s.p, putBits s.d s.n (c :: r), s.n + (c :: r).length⟩
    congr 1
    rw [List.length_cons]; omega
theorem fill_chunks : ∀ (n : Nat) (t : List UInt8) (s : Fs), t.length ≤ n → s.d = zeroBk → s.n = 0 → nextF (t.foldl stepF s) = ⟨(((chunk t).map blkOf).foldl nextG (s.v, s.p)).1, (((chunk t).map blkOf).foldl nextG (s.v, s.p)).2, zeroBk, 0⟩ := by
  intro n
  induction n with
  | zero =>
    intro t s h hd hn
    rw [fold_step t s (by omega), nextF_eq, chunk_eq, if_pos (by omega), hd, hn]; rfl
  | succ n ih =>
    intro t s h hd hn
    by_cases h2 : t.length ≤ 240
    · rw [fold_step t s (by omega), nextF_eq, chunk_eq, if_pos h2, hd, hn]; rfl
    · rw [chunk_eq, if_neg h2]
      have e : t = t.take 240 ++ t.drop 240 := (List.take_append_drop 240 t).symm
      have hl : (t.take 240).length = 240 := by rw [List.length_take]; omega
      obtain ⟨x, r, hx⟩ : ∃ x r, t.drop 240 = x :: r := by
        cases hq : t.drop 240 with
        | nil => have := congrArg List.length hq; rw [List.length_drop] at this; simp at this; omega
        | cons x r => exact ⟨x, r, rfl⟩
      have e1 : t.foldl stepF s = (t.drop 240).foldl stepF ((t.take 240).foldl stepF s) := by conv => lhs; rw [e, List.foldl_append]
      have e2 : (t.take 240).foldl stepF s = ⟨s.v, s.p, blkOf (t.take 240), 240⟩ := by rw [fold_step _ s (by omega), hd, hn, hl]; rfl
      have e3 : (t.drop 240).foldl stepF ⟨s.v, s.p, blkOf (t.take 240), 240⟩ = (t.drop 240).foldl stepF (nextF ⟨s.v, s.p, blkOf (t.take 240), 240⟩) := by
        rw [hx, List.foldl_cons, List.foldl_cons]
        congr 1
        unfold stepF
        have q1 : fullF ⟨s.v, s.p, blkOf (t.take 240), 240⟩ = nextF ⟨s.v, s.p, blkOf (t.take 240), 240⟩ := by unfold fullF; rw [if_pos rfl]
        have q2 : fullF (nextF ⟨s.v, s.p, blkOf (t.take 240), 240⟩) = nextF ⟨s.v, s.p, blkOf (t.take 240), 240⟩ := by rw [nextF_eq]; unfold fullF; rw [if_neg (by show (0 : Nat) ≠ 240; decide)]
        rw [q1, q2]
      rw [e1, e2, e3, ih (t.drop 240) _ (by rw [List.length_drop]; omega) (by rw [nextF_eq]) (by rw [nextF_eq]), nextF_eq]
      rfl
theorem fillP_eq (t : List UInt8) : fillP t = endG (((chunk t).map blkOf).foldl nextG ([], zeroBk)) := by
  unfold fillP fsP
  rw [fill_chunks t.length t ⟨[], zeroBk, zeroBk, 0⟩ (Nat.le_refl _) rfl rfl]
  rfl
/-! groups -/
def nextR (s : List Bk × Bk) (d : Bk) : List Bk × Bk := (s.1 ++ [d.shutB s.1.length], s.2.mix d)
theorem foldR_len : ∀ (ds : List Bk) (s : List Bk × Bk), (ds.foldl nextR s).1.length = s.1.length + ds.length
  | [], s => rfl
  | d :: ds, s => by rw [List.foldl_cons, foldR_len ds]; simp [nextR]; omega
def shutG (s : List Bk × Bk) : List Bk := s.1 ++ [s.2.shutB s.1.length]
theorem nextG_eq (s : List Bk × Bk) (d : Bk) : nextG s d = if (s.1.length + 1) % 5 = 4 then (shutG (nextR s d), zeroBk) else nextR s d := by
  unfold nextG shutG nextR
  split
  · simp
  · rfl
def grpN : Nat → List Bk → List Bk → List Bk
  | 0, v, _ => v
  | n + 1, v, ds => if ds.length = 0 then v else grpN n (shutG ((ds.take 4).foldl nextR (v, zeroBk))) (ds.drop 4)
theorem foldG_few : ∀ (ds : List Bk) (s : List Bk × Bk), s.1.length % 5 + ds.length ≤ 3 → ds.foldl nextG s = ds.foldl nextR s
  | [], _, _ => rfl
  | d :: ds, s, h => by
    have h : s.1.length % 5 + (ds.length + 1) ≤ 3 := h
    rw [List.foldl_cons, List.foldl_cons, nextG_eq, if_neg (by omega)]
    exact foldG_few ds _ (by simp only [nextR, List.length_append, List.length_cons, List.length_nil]; omega)
theorem grp_eq : ∀ (n : Nat) (ds v : List Bk), ds.length ≤ n → v.length % 5 = 0 → endG (ds.foldl nextG (v, zeroBk)) = grpN n v ds := by
  intro n
  induction n with
  | zero =>
    intro ds v h h5
    have : ds = [] := List.length_eq_zero_iff.1 (by omega)
    subst this
    show endG (v, zeroBk) = v
    unfold endG; rw [if_neg (by simpa using h5)]
  | succ n ih =>
    intro ds v h h5
    unfold grpN
    by_cases h0 : ds.length = 0
    · have : ds = [] := List.length_eq_zero_iff.1 h0
      subst this
      rw [if_pos h0]
      show endG (v, zeroBk) = v
      unfold endG; rw [if_neg (by simpa using h5)]
    · rw [if_neg h0]
      by_cases h4 : ds.length ≤ 3
      · rw [foldG_few ds (v, zeroBk) (by show v.length % 5 + ds.length ≤ 3; omega), List.take_of_length_le (by omega), List.drop_of_length_le (by omega)]
        have hl := foldR_len ds (v, zeroBk)
        have hl : (ds.foldl nextR (v, zeroBk)).1.length = v.length + ds.length := hl
        have e : ∀ w : List Bk, grpN n w [] = w := fun w => by cases n <;> simp [grpN]
        rw [e]
        unfold endG shutG
        rw [if_pos (by omega)]
      · have e : ds = ds.take 3 ++ nth ds 3 :: ds.drop 4 := by rw [← drop_nth (show 3 < ds.length by omega), List.take_append_drop]
        have e4 : ds.take 4 = ds.take 3 ++ [nth ds 3] := take_nth (show 3 < ds.length by omega)
        have hl3 : (ds.take 3).length = 3 := by rw [List.length_take]; omega
        have hl := foldR_len (ds.take 3) (v, zeroBk)
        have hl : ((ds.take 3).foldl nextR (v, zeroBk)).1.length = v.length + 3 := by rw [hl, hl3]
        have e1 : ds.foldl nextG (v, zeroBk) = (ds.drop 4).foldl nextG (shutG ((ds.take 4).foldl nextR (v, zeroBk)), zeroBk) := by
          conv => lhs; rw [e, List.foldl_append, List.foldl_cons, foldG_few (ds.take 3) (v, zeroBk) (by show v.length % 5 + (ds.take 3).length ≤ 3; omega), nextG_eq, if_pos (by omega)]
          rw [e4, List.foldl_append]; rfl
        rw [e1]
        refine ih (ds.drop 4) _ (by rw [List.length_drop]; omega) ?_
        unfold shutG
        rw [List.length_append, foldR_len, List.length_take]
        simp only [List.length_cons, List.length_nil]; omega
/-! digits of bytes -/
def digs (l : List UInt8) : List UInt8 := l.flatMap fun x => putP x.toNat 8
theorem digs_app (a b : List UInt8) : digs (a ++ b) = digs a ++ digs b := List.flatMap_append
theorem digs_cons (x : UInt8) (l : List UInt8) : digs (x :: l) = putP x.toNat 8 ++ digs l := rfl
theorem digs_len : ∀ l : List UInt8, (digs l).length = 8 * l.length
  | [] => rfl
  | x :: l => by rw [digs_cons, List.length_append, putP_length, digs_len l, List.length_cons]; omega
theorem bitB_tb (n i : Nat) : bitB n i = if n.testBit i = true then 49 else 48 := by
  have h := Nat.toNat_testBit n i
  rcases bitB_cases n i with ⟨h1, h2⟩ | ⟨h1, h2⟩
  · rw [h2, if_neg]; intro q; rw [q] at h; rw [h1] at h; cases h
  · rw [h2, if_pos]; cases q : n.testBit i
    · rw [q] at h; rw [h1] at h; cases h
    · rfl
theorem putP_nth {n k i : Nat} (hi : i < k) : nth (putP n k) i = bitB n (k - 1 - i) := by
  induction k generalizing i with
  | zero => omega
  | succ k ih =>
    cases i with
    | zero => rfl
    | succ i =>
      have e : nth (putP n (k + 1)) (i + 1) = nth (putP n k) i := rfl
      rw [e, ih (by omega)]; congr 1; omega
theorem digs_nth : ∀ {l : List UInt8} {j : Nat}, j < 8 * l.length → nth (digs l) j = bitB (nth l (j / 8)).toNat (7 - j % 8)
  | [], j, h => by simp at h
  | x :: l, j, h => by
    rw [digs_cons]
    have hl : (putP x.toNat 8).length = 8 := putP_length _ _
    by_cases hj : j < 8
    · have e : nth (putP x.toNat 8 ++ digs l) j = nth (putP x.toNat 8) j := by unfold nth; rw [List.getD_eq_getElem?_getD, List.getElem?_append_left (by omega), List.getD_eq_getElem?_getD]
      rw [e, putP_nth hj, show j / 8 = 0 by omega]
      show bitB x.toNat (8 - 1 - j) = bitB x.toNat (7 - j % 8)
      congr 1; omega
    · have e : nth (putP x.toNat 8 ++ digs l) j = nth (digs l) (j - 8) := by unfold nth; rw [List.getD_eq_getElem?_getD, List.getElem?_append_right (by omega), hl, List.getD_eq_getElem?_getD]
      rw [e, digs_nth (l := l) (j := j - 8) (by simp only [List.length_cons] at h; omega), show j / 8 = (j - 8) / 8 + 1 by omega]
      show bitB (nth l ((j - 8) / 8)).toNat (7 - (j - 8) % 8) = bitB (nth l ((j - 8) / 8)).toNat (7 - j % 8)
      congr 1; omega
/-- digit n of bytes -/
def bitAt (l : List UInt8) (n : Nat) : UInt8 := bitB (nth l (n / 8)).toNat (7 - n % 8)
theorem bitB_or (x : UInt8) {a b : Nat} (ha : a < 8) : bitB (x ||| UInt8.ofNat (2 ^ a)).toNat b = if b = a then 49 else bitB x.toNat b := by
  have h2 : 2 ^ a < 2 ^ 8 := Nat.pow_lt_pow_right (by decide) ha
  have e : (x ||| UInt8.ofNat (2 ^ a)).toNat = x.toNat ||| 2 ^ a := by
    rw [UInt8.toNat_or, UInt8.toNat_ofNat', Nat.mod_eq_of_lt h2]
  rw [e, bitB_tb, bitB_tb, Nat.testBit_or, Nat.testBit_two_pow]
  by_cases q : b = a
  · subst q; simp
  · rw [if_neg q]
    have : decide (a = b) = false := decide_eq_false (fun e => q e.symm)
    rw [this, Bool.or_false]
theorem bitAt_put {d : Bk} {n m : Nat} {c : UInt8} (hc : c = 48 ∨ c = 49) (hn : n < 240) (h0 : bitAt d.l n = 48) : bitAt (putBit d n c).l m = if m = n then c else bitAt d.l m := by
  have hl := d.h
  unfold putBit bitAt
  show bitB (nth (d.l.set (n / 8) (nth d.l (n / 8) ||| bitV c n)) (m / 8)).toNat (7 - m % 8) = _
  by_cases hb : m / 8 = n / 8
  · rw [hb]
    have e : nth (d.l.set (n / 8) (nth d.l (n / 8) ||| bitV c n)) (n / 8) = nth d.l (n / 8) ||| bitV c n := nth_setE (by omega) _
    rw [e]
    rcases hc with rfl | rfl
    · have e0 : bitV 48 n = 0 := by unfold bitV; simp
      rw [e0]
      have e1 : nth d.l (n / 8) ||| 0 = nth d.l (n / 8) := by simp
      rw [e1]
      by_cases q : m = n
      · rw [if_pos q, q]; exact h0
      · rw [if_neg q]
    · have e1 : bitV 49 n = UInt8.ofNat (2 ^ (7 - n % 8)) := by unfold bitV; simp
      rw [e1, bitB_or _ (by omega)]
      by_cases q : m = n
      · rw [if_pos q, if_pos (by rw [q])]
      · rw [if_neg q, if_neg (by omega)]
  · rw [if_neg (by intro e; rw [e] at hb; exact hb rfl)]
    have e : nth (d.l.set (n / 8) (nth d.l (n / 8) ||| bitV c n)) (m / 8) = nth d.l (m / 8) := nth_setN hb _
    rw [e]
theorem bitAt_puts : ∀ {c : List UInt8} {d : Bk} {n : Nat}, (∀ x ∈ c, x = 48 ∨ x = 49) → n + c.length ≤ 240 → (∀ m, n ≤ m → bitAt d.l m = 48) → ∀ m, bitAt (putBits d n c).l m = if n ≤ m ∧ m < n + c.length then nth c (m - n) else bitAt d.l m
  | [], d, n, _, _, _, m => by
    rw [if_neg (by simp only [List.length_nil]; omega)]; rfl
  | x :: c, d, n, hc, hl, h0, m => by
    have hl : n + (c.length + 1) ≤ 240 := hl
    have hx := hc x List.mem_cons_self
    have h1 := fun m => bitAt_put (m := m) hx (show n < 240 by omega) (h0 n (Nat.le_refl n))
    show bitAt (putBits (putBit d n x) (n + 1) c).l m = _
    rw [bitAt_puts (fun y hy => hc y (List.mem_cons_of_mem _ hy)) (by omega) (fun q hq => by rw [h1, if_neg (by omega)]; exact h0 q (by omega)) m, h1]
    rw [List.length_cons]
    by_cases q : m = n
    · subst q
      rw [if_neg (by omega), if_pos rfl, if_pos (by omega), Nat.sub_self]; rfl
    · rw [if_neg q]
      by_cases q2 : n + 1 ≤ m ∧ m < n + 1 + c.length
      · rw [if_pos q2, if_pos (by omega)]
        have e : m - n = (m - (n + 1)) + 1 := by omega
        rw [e]; rfl
      · rw [if_neg q2, if_neg (by omega)]
theorem nth_app_l {α : Type} [Inhabited α] {a b : List α} {i : Nat} (h : i < a.length) : nth (a ++ b) i = nth a i := by unfold nth; rw [List.getD_eq_getElem?_getD, List.getElem?_append_left h, List.getD_eq_getElem?_getD]
theorem nth_app_r {α : Type} [Inhabited α] {a b : List α} {i : Nat} (h : a.length ≤ i) : nth (a ++ b) i = nth b (i - a.length) := by unfold nth; rw [List.getD_eq_getElem?_getD, List.getElem?_append_right h, List.getD_eq_getElem?_getD]
theorem nth_rep {α : Type} [Inhabited α] {n i : Nat} {x : α} (h : i < n) : nth (List.replicate n x) i = x := by unfold nth; rw [List.getD_eq_getElem?_getD, List.getElem?_replicate, if_pos h]; rfl
theorem nth_takeL {α : Type} [Inhabited α] {a : List α} {i k : Nat} (h : i < k) : nth (a.take k) i = nth a i := by unfold nth; rw [List.getD_eq_getElem?_getD, List.getElem?_take, if_pos h, List.getD_eq_getElem?_getD]
theorem list_ext {α : Type} [Inhabited α] {a b : List α} (hl : a.length = b.length) (h : ∀ i, i < a.length → nth a i = nth b i) : a = b := by
  refine List.ext_getElem hl fun i h1 h2 => ?_
  rw [← nth_eq h1, ← nth_eq h2]; exact h i h1
theorem bitAt_zero (m : Nat) : bitAt zeroBk.l m = 48 := by
  have h : nth zeroBk.l (m / 8) = 0 := by
    show nth (List.replicate 32 (0 : UInt8)) (m / 8) = 0
    rcases Nat.lt_or_ge (m / 8) 32 with q | q
    · exact nth_rep q
    · unfold nth; rw [List.getD_eq_getElem?_getD, List.getElem?_eq_none (by rw [List.length_replicate]; exact q)]; rfl
  unfold bitAt
  rw [h]
  rcases bitB_cases (0 : UInt8).toNat (7 - m % 8) with ⟨_, q⟩ | ⟨q, _⟩
  · exact q
  · rw [show (0 : UInt8).toNat = 0 from rfl, Nat.zero_div] at q; cases q
/-- the digits of a chunk's block -/
theorem digs_blk {c : List UInt8} (hc : ∀ x ∈ c, x = 48 ∨ x = 49) (hl : c.length ≤ 240) : digs ((blkOf c).l.take 30) = c ++ List.replicate (240 - c.length) 48 := by
  have h32 := (blkOf c).h
  refine list_ext ?_ fun i hi => ?_
  · rw [digs_len, List.length_take, List.length_append, List.length_replicate]; omega
  · rw [digs_len, List.length_take] at hi
    rw [digs_nth (by rw [List.length_take]; exact hi), nth_takeL (by omega)]
    have h := bitAt_puts (d := zeroBk) (n := 0) hc (by omega) (fun m _ => bitAt_zero m) i
    have e : bitAt (putBits zeroBk 0 c).l i = bitB (nth (blkOf c).l (i / 8)).toNat (7 - i % 8) := rfl
    rw [← e, h, bitAt_zero]
    by_cases q : i < c.length
    · rw [if_pos (by omega), nth_app_l q]; rfl
    · rw [if_neg (by omega), nth_app_r (by omega), nth_rep (by omega)]
/-! the bytes of all chunks -/
theorem blk30 (b : Bk) : (b.l.take 30).length = 30 := by rw [List.length_take, b.h]; rfl
/-! ### the reference's Data and Write -/
/-! the reference's Write: groups of up to four -/
/-! the reference's Bits -/
theorem grpN_nil (n : Nat) (v : List Bk) : grpN n v [] = v := by cases n <;> simp [grpN]
theorem foldR_snoc {v ds : List Bk} {i : Nat} (hi : i < ds.length) : (ds.take (i + 1)).foldl nextR (v, zeroBk) = nextR ((ds.take i).foldl nextR (v, zeroBk)) (nth ds i) := by
  rw [take_nth hi, List.foldl_append]; rfl

end Go.Proofs.YtagmkfbbhfaceaaGreatDoor
namespace Go.Proofs.YtagmkfbbhfaceaaGreatDoor
open Go Go.RowKit
set_option maxRecDepth 10000

theorem eqIn41 (n : Nat) (a0 : Int) (a1 : Int) (a2 : Int) (a3 : Int) (a4 : Int) (a5 : Int) (b0 : Int) (b1 : Int) (b2 : Int) (b3 : Int) (b4 : Int) (b5 : Int) (w : World) : (Op.equalIn (n + 2) 41 (.agg #[.int .i64 a0, .int .i64 a1, .int .i64 a2, .int .i64 a3, .int .i64 a4, .int .i64 a5]) (.agg #[.int .i64 b0, .int .i64 b1, .int .i64 b2, .int .i64 b3, .int .i64 b4, .int .i64 b5])).run Tryz.prog w = .ok (decide (a0 = b0) && decide (a1 = b1) && decide (a2 = b2) && decide (a3 = b3) && decide (a4 = b4) && decide (a5 = b5)) w := by
  have hS : Tryz.prog.underlying 41 = some (.struct (Tryz.prog.fieldsOf 41)) := by kernel_rfl
  have hp : Tryz.prog.stoodInHeld 41 = false := by kernel_rfl
  have p0 : ∀ (a0 : Int) (a1 : Int) (a2 : Int) (a3 : Int) (a4 : Int) (a5 : Int), (part 3 #[.int .i64 a0, .int .i64 a1, .int .i64 a2, .int .i64 a3, .int .i64 a4, .int .i64 a5] 0).run Tryz.prog w = .ok (.int .i64 a0) w := fun _ _ _ _ _ _ => by simp [part, Tryz.isAgg3]
  have p1 : ∀ (a0 : Int) (a1 : Int) (a2 : Int) (a3 : Int) (a4 : Int) (a5 : Int), (part 39 #[.int .i64 a0, .int .i64 a1, .int .i64 a2, .int .i64 a3, .int .i64 a4, .int .i64 a5] 1).run Tryz.prog w = .ok (.int .i64 a1) w := fun _ _ _ _ _ _ => by simp [part, Tryz.isAgg39]
  have p2 : ∀ (a0 : Int) (a1 : Int) (a2 : Int) (a3 : Int) (a4 : Int) (a5 : Int), (part 3 #[.int .i64 a0, .int .i64 a1, .int .i64 a2, .int .i64 a3, .int .i64 a4, .int .i64 a5] 2).run Tryz.prog w = .ok (.int .i64 a2) w := fun _ _ _ _ _ _ => by simp [part, Tryz.isAgg3]
  have p3 : ∀ (a0 : Int) (a1 : Int) (a2 : Int) (a3 : Int) (a4 : Int) (a5 : Int), (part 3 #[.int .i64 a0, .int .i64 a1, .int .i64 a2, .int .i64 a3, .int .i64 a4, .int .i64 a5] 3).run Tryz.prog w = .ok (.int .i64 a3) w := fun _ _ _ _ _ _ => by simp [part, Tryz.isAgg3]
  have p4 : ∀ (a0 : Int) (a1 : Int) (a2 : Int) (a3 : Int) (a4 : Int) (a5 : Int), (part 3 #[.int .i64 a0, .int .i64 a1, .int .i64 a2, .int .i64 a3, .int .i64 a4, .int .i64 a5] 4).run Tryz.prog w = .ok (.int .i64 a4) w := fun _ _ _ _ _ _ => by simp [part, Tryz.isAgg3]
  have p5 : ∀ (a0 : Int) (a1 : Int) (a2 : Int) (a3 : Int) (a4 : Int) (a5 : Int), (part 3 #[.int .i64 a0, .int .i64 a1, .int .i64 a2, .int .i64 a3, .int .i64 a4, .int .i64 a5] 5).run Tryz.prog w = .ok (.int .i64 a5) w := fun _ _ _ _ _ _ => by simp [part, Tryz.isAgg3]
  have e3 := fun a b w => equal_i64 Tryz.underlying3 (n + 0) a b w
  have e39 := fun a b w => equal_i64 Tryz.underlying39 (n + 0) a b w
  rw [run_equalIn_struct w (n + 1) 41 _ _ hS hp]
  simp only [Program.fieldsOf, Tryz.underlying41]
  simp only [Op.eqFields, Sem.run_bind, Sem.run_ite, p0, p1, p2, p3, p4, p5, e3, e39, Result.andThen_ok]
  by_cases h0 : a0 = b0 <;> by_cases h1 : a1 = b1 <;> by_cases h2 : a2 = b2 <;> by_cases h3 : a3 = b3 <;> by_cases h4 : a4 = b4 <;> by_cases h5 : a5 = b5 <;> simp [h0, h1, h2, h3, h4, h5]


instance : DecidableEq Ent := fun a b => if h : a.m = b.m ∧ a.k = b.k ∧ a.h = b.h ∧ a.p = b.p ∧ a.b = b.b ∧ a.t = b.t then isTrue (by cases a; cases b; simp at h; simp [h]) else isFalse (fun e => h (by rw [e]; exact ⟨rfl, rfl, rfl, rfl, rfl, rfl⟩))



end Go.Proofs.YtagmkfbbhfaceaaGreatDoor
