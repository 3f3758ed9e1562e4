/-
  The reference's Cannot for all kinds of events. Conditions: none.
-/
import Derived.Test.YtgkkgpenmppjcaaVB5
namespace Go.Proofs.Ytgkkgpenmppjcaa
open Go Go.RowKit

theorem step1 {S : Stt} {x : Ev} {e : Int} (hk : x.kind = 1) : stepF S x e = { S with loaded := S.loaded.set (x.bill).toNat (nth S.loaded (x.bill).toNat + x.tons), hold := S.hold.set (x.to).toNat (nth S.hold (x.to).toNat ++ [⟨x.bill, x.tons, [e]⟩]) } := by unfold stepF; rw [if_pos hk]
theorem step2 {S : Stt} {x : Ev} {e : Int} (hk : x.kind = 2) : stepF S x e = { S with hold := (S.hold.set (x.frm).toNat (takV (nth S.hold (x.frm).toNat) x.tons).1).set (x.to).toNat (nth S.hold (x.to).toNat ++ (takV (nth S.hold (x.frm).toNat) x.tons).2.map (movL e)) } := by unfold stepF; rw [if_neg (by omega), if_pos hk]
theorem step3 {S : Stt} {x : Ev} {e : Int} (hk : x.kind = 3) : stepF S x e = { S with hold := S.hold.set (x.frm).toNat (takV (nth S.hold (x.frm).toNat) x.tons).1, landed := S.landed ++ [⟨e, x.port, (takV (nth S.hold (x.frm).toNat) x.tons).2.map (movL e)⟩] } := by unfold stepF; rw [if_neg (by omega), if_neg (by omega), if_pos hk]
theorem step4 {S : Stt} {x : Ev} {e : Int} (hk : x.kind = 4) : stepF S x e = { S with sealed := S.sealed.set (x.to).toNat true, seals := S.seals ++ [x.sn] } := by unfold stepF; rw [if_neg (by omega), if_neg (by omega), if_neg (by omega), if_pos hk]
theorem step5 {S : Stt} {x : Ev} {e : Int} (hk : x.kind = 5) : stepF S x e = { S with sealed := S.sealed.set (x.frm).toNat false } := by unfold stepF; rw [if_neg (by omega), if_neg (by omega), if_neg (by omega), if_neg (by omega)]

theorem Cannot_c (bs : List Bil) (ab : Option Addr) (bb ob cb : Nat) (hs : List Hld) (ah : Option Addr) (bh oh ch : Nat) (mi : Int) (R : RG) (n : Nat) (x : Ev) (w0 : World) (hbs : Sl encBil 3 w0 ab bb ob bs) (hhs : Sl encHld 2 w0 ah bh oh hs) (hbl : bs.length ≤ 1000000) (hhl : hs.length ≤ 1000000) (hR : RM w0 R) (hst : StOk bs (hs.map Hld.cap) n R.st) (hx : okEv x = true) (hse : R.se.length ≤ 1000000) (hmi : 0 ≤ mi ∧ mi ≤ 1000000) : CallsV Try.prog 49 [.agg #[.slice ab bs.length cb, .slice ah hs.length ch], .agg #[.slice R.ha R.hl.length R.hc, .slice R.sa R.sl.length R.sc, .slice R.la R.ld.length R.lc, .slice R.da R.lo.length R.dc, .slice R.ea R.se.length R.ec], .agg #[.int .i64 x.kind, .int .i64 x.minute, .int .i64 x.bill, .int .i64 x.frm, .int .i64 x.to, .int .i64 x.tons, .int .i64 x.port, .int .i64 x.sn], .int .i64 mi] w0 (fun v w' => v = .int .i64 (chkP bs (hs.map Hld.cap) R.st mi x) ∧ Ext w0 w') := by
  have hr := okEv_rng hx
  have hk : x.kind = 1 ∨ x.kind = 2 ∨ x.kind = 3 ∨ x.kind = 4 ∨ x.kind = 5 := by omega
  rcases hk with hk | hk | hk | hk | hk
  · rw [hk]; exact Cannot1_c bs ab bb ob cb hs ah bh oh ch mi R n x w0 hbs hhs hbl hhl hR hst hx hse hmi hk
  · rw [hk]; exact Cannot2_c bs ab bb ob cb hs ah bh oh ch mi R n x w0 hbs hhs hbl hhl hR hst hx hse hmi hk
  · rw [hk]; exact Cannot3_c bs ab bb ob cb hs ah bh oh ch mi R n x w0 hbs hhs hbl hhl hR hst hx hse hmi hk
  · rw [hk]; exact Cannot4_c bs ab bb ob cb hs ah bh oh ch mi R n x w0 hbs hhs hbl hhl hR hst hx hse hmi hk
  · rw [hk]; exact Cannot5_c bs ab bb ob cb hs ah bh oh ch mi R n x w0 hbs hhs hbl hhl hR hst hx hse hmi hk

end Go.Proofs.Ytgkkgpenmppjcaa
