/- The document's product of monomials. A polynomial's first term, class and degree. Degree, rank, the order of ranks, what is reduced. The document's whole numbers: a sign and digits. A region that draws its order: what reads first, then calls that make memory, one behind the other. The document's whole numbers: as data, small ones, sign, the same, canonical. The document's whole numbers: small ones, products, sums. The document's whole numbers: sums. The document: which polynomials may be. Decimal digits: quotient and rest. -/
import Derived.StillTailTactics
import Derived.StillTail
import Derived.OrdersHeld
import Derived.Test.YtbfflodidkfphaaGreatSe2
set_option maxRecDepth 100000
set_option maxHeartbeats 16000000
namespace Go.Proofs.YtbfflodidkfphaaGreat
section
open Go.RowKit
def sumF (a b:Mono):Nat → Int:=fun v => ex a (v:Nat) + ex b (v:Nat)
def z5a (f:Nat → Int):Nat → Bool
 | 0 => false
 | k + 1 => z5a f k || decide (10000 < f (k + 1))
def z4d (a b:Mono):Option Mono:=if z5a (sumF a b) 200 then none else some (ofE (sumF a b) 200)
theorem zhz {f:Nat → Int} {k n:Nat} (h:z5a f k = true) (hk:k ≤ n):z5a f n = true:=by
 induction n with
 | zero =>
  obtain rfl:k = 0:=by omega
  exact h
 | succ n ih =>
  by_cases e:k = n + 1
  ·subst e; exact h
  ·simp only [z5a,ih (by omega),Bool.true_or]
theorem zk8 {f g:Nat → Int} {n:Nat} (h:∀ k,1 ≤ k → k ≤ n → f k = g k):ofE f n = ofE g n:=by
 induction n with
 | zero => rfl
 | succ n ih => simp only [ofE,h (n + 1) (by omega) (Nat.le_refl _),ih (fun k h1 h2 => h k h1 (by omega))]
def mixF (a b:Mono) (k:Nat):Nat → Int:=fun j => if 1 ≤ j ∧ j ≤ k then ex a (j:Nat) + ex b (j:Nat) else ex a (j:Nat)
theorem zen {a b:Mono} {k:Nat} (h:z5a (sumF a b) k = true) (hk:k ≤ 200):z4d a b = none:=by
 unfold z4d
 rw [if_pos (zhz h hk)]
theorem zeo {a b:Mono} (h:z5a (sumF a b) 200 = false):z4d a b = some (ofE (mixF a b 200) 200):=by
 unfold z4d
 rw [if_neg (by rw [h]; exact Bool.false_ne_true)]
 exact congrArg some (zk8 (fun k h1 h2 => by
  unfold sumF mixF
  rw [if_pos ⟨h1,h2⟩]))
def zr7:Option Mono → Int
 | none => 8
 | some _ => 0
def zr8:Option Mono → Mono
 | none => []
 | some m => m
theorem zi0 (f:Nat → Int):z5a f 0 = false:=rfl
theorem zi1 (a b:Mono) (k:Nat):z5a (sumF a b) (k + 1) = (z5a (sumF a b) k || decide (10000 < ex a ((k + 1:Nat):Int) + ex b ((k + 1:Nat):Int))):=rfl
attribute [local irreducible] ofE z5a z4d
theorem zep {S:Nat → Prop} (va vb:Value) (a b:Mono) (w:World) (ha:Pows S w va a) (hb:Pows S w vb b) (hS:∀ k,S k → k < w.heap.size) (hma:mayM a = true) (hmb:mayM b = true) :
  Calls Tryz.prog 87 #[va,vb] w fun e w' => ∃ v',e = .returned (.tuple #[v',.int .i64 (zr7 (z4d a b))]) ∧ Pows (New w w') w' v' (zr8 (z4d a b)) ∧ Ext w w':=by
 have hz:=(zero_of_info Tryz.infoArr).1
 have hcs:(Value.agg (tabA fun _ => 0)).cells = tabA fun _ => 0:=rfl
 have hnot:∀ (x:Bool) (w:World),(Op.unary .not (.bool x)).run Tryz.prog w = .ok (.bool (!x)) w:=fun _ _ => rfl
 have HA:=hid ha
 have HB:=hid hb
 obtain ⟨aa,ca,rfl⟩:=ha.form
 obtain ⟨ab1,cb,rfl⟩:=hb.form
 have HMA:=hid hma
 have HMB:=hid hmb
 have M1:=fun W (hW:Ext w W) => z7a (S:=S) _ a W (HA.out.ext' hW hS) (z0a hS hW)
 rw [hma] at M1
 have M2:=fun W (hW:Ext w W) => z7a (S:=S) _ b W (HB.out.ext' hW hS) (z0a hS hW)
 rw [hmb] at M2
 have EA:Hid (exF a = fun v => ex a (v:Nat)):=hid (by funext v; unfold exF; rw [z51 hma])
 have EB:Hid (exF b = fun v => ex b (v:Nat)):=hid (by funext v; unfold exF; rw [z51 hmb])
 have HM1:=hid M1
 have HM2:=hid M2
 obtain ⟨R,hR⟩:∃ R,R = z4d a b:=⟨_,rfl⟩
 rw [← hR]
 have HR:=hid hR
 clear ha hb hma hmb M1 M2 hR
 go_enter Tryz.func87,Tryz.ntmps87
 go_wp2_with fail
 refine (HM1.out w (Ext.refl _)).mono ?_
 rintro e w1 ⟨rfl,hx1⟩
 have HX1:=hid hx1
 clear hx1
 go_wp2_with fail
 refine (HM2.out w1 HX1.out).mono ?_
 rintro e w2 ⟨rfl,hx2⟩
 have HX2:=hid (HX1.out.trans hx2)
 clear hx2
 go_wp2_with fail
 refine (z6c _ a w2 (HA.out.ext' HX2.out hS) (z0a hS HX2.out)).mono ?_
 rintro e w3 ⟨rfl,hx3⟩
 have HX3:=hid (HX2.out.trans hx3)
 clear hx3
 rw [EA.out]
 go_wp2_with (refine z1m rfl (.tmp 6) (.tmp 18) rfl rfl rfl (z6v (fun _ => 0) w3) ?_; intro w4 hrow hg; have HROW:=hid hrow; have HG:=hid hg; clear hrow hg)
 have HX4:Hid (Ext w w4):=hid (z0j (HX3.out.alloc _) HG.out (fun k hk => Nat.le_trans HX3.out.size (zan hk)))
 refine (z6c _ b w4 (HB.out.ext' HX4.out hS) (z0a hS HX4.out)).mono ?_
 rintro e w5 ⟨rfl,hx5⟩
 have HX5:=hid (HX4.out.trans hx5)
 have hsz:w3.heap.size < w4.heap.size:=by
  have:=HG.out.size
  rw [size_alloc] at this
  omega
 have HSZ:Hid (w3.heap.size < w5.heap.size):=hid (Nat.lt_of_lt_of_le hsz hx5.size)
 have HROW5:=hid (z4t HROW.out hx5)
 clear hx5 hsz
 rw [EB.out]
 go_wp2_with (refine z1m rfl (.tmp 7) (.tmp 20) rfl rfl rfl (z6v (fun _ => 0) w5) ?_; intro w6 hrow hg; have HROWB:=hid hrow; have HG2:=hid hg; clear hrow hg)
 have HX6:Hid (Ext w w6):=hid (z0j (HX5.out.alloc _) HG2.out (fun k hk => Nat.le_trans HX5.out.size (zan hk)))
 have HROWA:Hid (w6.rowIs w3.heap.size 132 201 (iv (mixF a b 0))):=hid (by
  have h1:=zcl (z4t HROW5.out (Ext.alloc (Ext.refl _) _)) HG2.out (fun e => by
   have:=HSZ.out
   have h1:w3.heap.size = w5.heap.size:=by simpa using e
   omega)
  have e:mixF a b 0 = fun v:Nat => ex a (v:Nat):=by
   funext j
   unfold mixF
   rw [if_neg (by omega)]
  rw [e]
  exact h1)
 obtain ⟨ga,hga⟩:∃ g,g = w3.heap.size:=⟨_,rfl⟩
 obtain ⟨gb,hgb⟩:∃ g,g = w5.heap.size:=⟨_,rfl⟩
 have hgab:ga ≠ gb:=by
  rw [hga,hgb]
  have:=HSZ.out
  omega
 have HGA:Hid (w.heap.size ≤ ga):=hid (by rw [hga]; exact HX3.out.size)
 rw [← hga] at HROWA ⊢
 rw [← hgb] at HROWB ⊢
 clear hga hgb
 go_loopw [8] (fun v wr => ∃ k:Nat,k ≤ 200 ∧ v = .int .i64 ((k:Int) + 1) ∧ Ext w wr ∧ Hid (wr.rowIs ga 132 201 (iv (mixF a b k))) ∧ Hid (wr.rowIs gb 132 201 (iv fun v => ex b (v:Nat))) ∧ Hid (z5a (sumF a b) k = false)) (fun v _ => (201 - intOf v).toNat)
 case atStart => exact ⟨0,by omega,rfl,HX6.out,HROWA,HROWB,hid (zi0 _)⟩
 case round =>
  obtain ⟨k,hk,rfl,hx,HP,HQ,HO⟩:=hrel
  have HX:=hid hx
  by_cases h0:k < 200
  ·obtain ⟨q,hq⟩:∃ q,q = k + 1:=⟨_,rfl⟩
   have hqI:(k:Int) + 1 = (q:Int):=by omega
   have hq201:q < 201:=by omega
   have hca:=HP.out.cell (i:=q) hq201
   have hcb:wr.cell? ⟨gb,q,none⟩ = some (.int .i64 (ex b (q:Nat))):=HQ.out.cell (i:=q) hq201
   have hfa:=HP.out.frozen q
   have hm1:mixF a b k q = ex a (q:Nat):=by unfold mixF; rw [if_neg (by omega)]
   unfold iv at hca
   rw [hm1] at hca
   obtain ⟨x,hxe⟩:∃ x,x = ex a (q:Nat):=⟨_,rfl⟩
   obtain ⟨y,hye⟩:∃ y,y = ex b (q:Nat):=⟨_,rfl⟩
   have hxr:=z3l HMA.out (q:Nat)
   have hyr:=z3l HMB.out (q:Nat)
   rw [← hxe] at hca hxr
   rw [← hye] at hcb hyr
   obtain ⟨hxr1,hxr2⟩:=hxr
   obtain ⟨hyr1,hyr2⟩:=hyr
   have hov:z5a (sumF a b) q = (z5a (sumF a b) k || decide (10000 < x + y)):=by rw [hq,hxe,hye,hq]; exact zi1 a b k
   rw [HO.out,Bool.false_or] at hov
   have HOV:=hid hov
   have HQE:=hid hq
   have HXE:=hid hxe
   have HYE:=hid hye
   have hq1:1 ≤ q:=by omega
   have hq2:q ≤ 200:=by omega
   have hqI0:(0:Int) ≤ (q:Int):=by omega
   have hqI1:(q:Int) < 201:=by omega
   rw [hqI]
   clear hx hq hm1 hxe hye hov
   go_wp2
   go_still_tail 9,(by kernel_rfl)
   change wpList _ _ _ _ _ wr.drew
   have hst:=World.rowIs.set (World.rowIs.drewN' HP.out) q (.int .i64 (x + y))
   have hrowA:(wr.drew.setCell ⟨ga,q,none⟩ (.int .i64 (x + y))).rowIs ga 132 201 (iv (mixF a b q)):=hst.congr (fun i hi => by
    unfold iv mixF
    by_cases e:i = q
    ·subst e
     rw [if_pos rfl,if_pos ⟨hq1,Nat.le_refl _⟩,← HXE.out,← HYE.out]
    ·rw [if_neg e]
     have:=HQE.out
     by_cases e2:1 ≤ i ∧ i ≤ k
     ·rw [if_pos e2,if_pos (by omega)]
     ·rw [if_neg e2,if_neg (by omega)])
   have HRA:=hid hrowA
   have hca2:=hrowA.cell (i:=q) hq201
   unfold iv mixF at hca2
   rw [if_pos ⟨hq1,Nat.le_refl _⟩,← HXE.out,← HYE.out] at hca2
   clear hst hrowA
   by_cases hbig:10000 < x + y
   ·have HRN:Hid (R = none):=hid (HR.out.trans (zen (by rw [HOV.out]; exact decide_eq_true hbig) hq2))
    go_wp2
    all_goals
     go_ret2
     rw [HRN.out]
     refine ⟨_,rfl,Pows.empty _ _ _,(HX.out.drew).setCell (p:=⟨ga,q,none⟩) HGA.out _⟩
   ·go_wp2
    go_roundw
    case rel => exact ⟨q,by omega,rfl,(HX.out.drew).setCell (p:=⟨ga,q,none⟩) HGA.out _,HRA,hid (zk5 (World.rowIs.drewN' HQ.out) (fun e => hgab e.symm) _),hid (by rw [HOV.out]; exact decide_eq_false hbig)⟩
    case measure => simp only [intOf]; omega
  ·obtain rfl:k = 200:=by omega
   have HRS:=hid (HR.out.trans (zeo HO.out))
   have hof:=znx (mixF a b 200) wr (fun j => by
    have h1:=z3l HMA.out (j:Nat)
    have h2:=z3l HMB.out (j:Nat)
    unfold mixF
    split <;> omega)
   have HOF:=hid hof
   clear hx hof
   go_wp2_with (refine z4c rfl (.tmp 6) rfl rfl HP.out ?_)
   refine HOF.out.mono ?_
   rintro e w7 ⟨v7,rfl,hp,hx7⟩
   have HX7:=hid hx7
   have HP7:=hid hp
   clear hp hx7
   go_wp2
   all_goals
    go_ret2
    rw [HRS.out]
    exact ⟨_,rfl,HP7.out.to (Kept.refl _ _) (New.mono HX.out),HX.out.trans HX7.out⟩
end
section
open Go.RowKit
def zi2 (S:Nat → Prop) (w:World) (v:Value) (t:RTerm):Prop:=∃ vm vo,v = .agg #[.bool t.c.neg,vm,vo] ∧ U32s S w vm t.c.mag ∧ Pows S w vo t.m
theorem New.kept {a w W:World} (hx:Ext w W):Kept (New a w) w W:=Kept.ext hx (fun _ h => h.2)
theorem zny (S:Nat → Prop) (w:World):IntV S w (.agg #[.bool false,.slice none 0 0]) ⟨false,[]⟩:=⟨_,rfl,U32s.nilv _ _ _ _ (by omega)⟩
theorem zi3:valI ⟨false,[]⟩ = 0:=rfl
end
section
open Go.RowKit
theorem new2 {w W:World} {u v:Value} {T:TypeId} (h:Ext (w.alloc (.cells #[u,v] T)) W) :
  W.cell? ⟨w.heap.size,0,none⟩ = some u ∧ W.cell? ⟨w.heap.size,1,none⟩ = some v ∧ W.frozen? ⟨w.heap.size,0,none⟩ = false ∧ W.frozen? ⟨w.heap.size,1,none⟩ = false :=
 ⟨h.new_cell rfl,h.new_cell rfl,h.new_free 0,h.new_free 1⟩
end
section
open Go.RowKit
def ZV (S:Nat → Prop) (w:World) (v:Value) (z:Int):Prop:=∃ vd,v = .agg #[.bool (decide (z < 0)),vd] ∧ Digs S w vd (rep 10 z.natAbs)
theorem ZV.to {S S':Nat → Prop} {w w':World} {v:Value} {z:Int} (h:ZV S w v z) (hk:Kept S w w') (hS:∀ k,S k → S' k):ZV S' w' v z:=by
 obtain ⟨vd,h1,h2⟩:=h
 exact ⟨vd,h1,h2.to hk hS⟩
theorem ZV.ext {S:Nat → Prop} {w W:World} {v:Value} {z:Int} (h:ZV S w v z) (hx:Ext w W) (hS:∀ k,S k → k < w.heap.size):ZV S W v z:=h.to (Kept.ext hx hS) (fun _ h => h)
theorem ZV.form {S:Nat → Prop} {w:World} {v:Value} {z:Int} (h:ZV S w v z):∃ a n c,v = .agg #[.bool (decide (z < 0)),.slice a n c]:=by
 obtain ⟨vd,h1,h2⟩:=h
 obtain ⟨a,c,rfl⟩:=h2.form
 exact ⟨a,_,c,h1⟩
theorem zsx (b:Bool) (n:Nat):decide (sg b n < 0) = (b && decide (0 < n)):=by
 unfold sg
 cases b <;> simp <;> omega
theorem zg8 (b:Bool) (n:Nat):(sg b n).natAbs = n:=by
 unfold sg
 cases b <;> simp
theorem z35 (n:Nat):decide (0 < (rep 10 n).length) = decide (0 < n):=by
 rw [decide_eq_decide,List.length_pos_iff,Ne,z1u z05]
 omega
theorem zcm {S:Nat → Prop} {w:World} {vd:Value} {b:Bool} {n:Nat} (h:Digs S w vd (rep 10 n)):ZV S w (.agg #[.bool (b && decide (0 < n)),vd]) (sg b n) :=
 ⟨vd,by rw [zsx],by rw [zg8]; exact h⟩
theorem zbd (x:RInt):valI x = sg x.neg (val B32 x.mag):=rfl
theorem z4e {w0 w1 w2:World} {b:Nat} {v:Value} {z:Int} (hv:ZV (New w1 w2) w2 v z) (h01:Ext w0 w1) (h12:Ext w1 w2) (hb0:w0.heap.size ≤ b) (hb1:b < w1.heap.size) (x y:Value) :
  ZV (New w0 ((w2.setCell ⟨b,0,none⟩ x).setCell ⟨b,1,none⟩ y)) ((w2.setCell ⟨b,0,none⟩ x).setCell ⟨b,1,none⟩ y) v z ∧ Ext w0 ((w2.setCell ⟨b,0,none⟩ x).setCell ⟨b,1,none⟩ y):=by
 refine ⟨hv.to (Kept.set2 (fun h => ?_) _ _) (fun k hk => ⟨Nat.le_trans h01.size hk.1,?_⟩),(h01.trans h12).set2 hb0 _ _⟩
 ·have:=h.1
  omega
 ·rw [z4z]
  exact hk.2
theorem zeq {w W:World} {u0 v0:Value} {T0:TypeId} {u v:Value} {T:TypeId} (h:Ext ((w.alloc (.cells #[u0,v0] T0)).alloc (.cells #[u,v] T)) W) :
  W.cell? ⟨w.heap.size + 1,0,none⟩ = some u ∧ W.cell? ⟨w.heap.size + 1,1,none⟩ = some v ∧ W.frozen? ⟨w.heap.size + 1,0,none⟩ = false ∧ W.frozen? ⟨w.heap.size + 1,1,none⟩ = false:=by
 have:=new2 h
 rw [size_alloc] at this
 exact this
theorem old2 {w W:World} {u0 v0:Value} {T0:TypeId} {o:Obj} (h:Ext ((w.alloc (.cells #[u0,v0] T0)).alloc o) W):W.cell? ⟨w.heap.size,0,none⟩ = some u0 ∧ W.cell? ⟨w.heap.size,1,none⟩ = some v0 :=
 ⟨(new2 ((Ext.alloc (Ext.refl _) o).trans h)).1,(new2 ((Ext.alloc (Ext.refl _) o).trans h)).2.1⟩
def szZ (z:Int):Prop:=(rep 10 z.natAbs).length ≤ 2000000
theorem zcn {S:Nat → Prop} (v:Value) (x:RInt) (w:World) (h:IntV S w v x) (hS:∀ k,S k → k < w.heap.size) (hr:x.mag.length ≤ 100000) :
  Calls Tryz.prog 41 #[v] w fun e w' => ∃ v',e = .returned v' ∧ ZV (New w w') w' v' (valI x) ∧ Ext w w':=by
 obtain ⟨ng,zs⟩:=x
 obtain ⟨vm,rfl,hu⟩:=h
 simp only at hu hr ⊢
 have HU:=hid hu
 obtain ⟨a,c,rfl⟩:=hu.form
 clear hu
 have HK:=hid (Ext.alloc (Ext.alloc (Ext.refl w) (.cells #[.bool ng,.slice a zs.length c] 26)) (.cells #[.bool false,.slice none 0 0] 56))
 have HSZ:Hid (w.heap.size + 1 < ((w.alloc (.cells #[.bool ng,.slice a zs.length c] 26)).alloc (.cells #[.bool false,.slice none 0 0] 56)).heap.size):=hid (by simp)
 have hc:=zsv _ zs _ (HU.out.ext HK.out hS) (z0a hS HK.out) hr
 obtain ⟨n,hn⟩:∃ n,n = val B32 zs:=⟨_,rfl⟩
 rw [← hn] at hc
 have HC:=hid hc
 have er:valI ⟨ng,zs⟩ = sg ng n:=by rw [zbd,hn]
 rw [er]
 clear hc hn er
 go_enter Tryz.func41,Tryz.ntmps41
 go_wp2_with fail
 refine HC.out.mono ?_
 rintro e w1 ⟨v1,rfl,hd,hx⟩
 have HX:=hid hx
 obtain ⟨c0,c1⟩:=old2 hx
 obtain ⟨r0,r1,f0,f1⟩:=zeq hx
 have HE:=hid (And.intro r0 r1)
 have HD:=hid hd
 obtain ⟨a1,n1,rfl⟩:=hd.form
 clear hx hd
 have hlen:=z35 n
 have hz:=zcm (b:=ng) HD.out
 by_cases h0:0 < n
 ·have hp:0 < (rep 10 n).length:=by simpa [h0] using hlen
  rw [show (ng && decide (0 < n)) = ng by simp [h0]] at hz
  have HZ:=hid hz
  clear hlen hz
  cases ng
  all_goals
   go_wp2
   have hd:=fun x y => z0v x y HE.out.1 HE.out.2
   refine bodyPost_ret (by simp [results,Tryz.results41,go_sem,(hd _ _).1,(hd _ _).2]; rfl) rfl ?_
   have hg:=fun x y => z4e (w0:=w) (b:=w.heap.size + 1) HZ.out HK.out HX.out (by omega) HSZ.out x y
   exact ⟨_,rfl,(hg _ _).1,(hg _ _).2⟩
 ·obtain rfl:n = 0:=by omega
  rw [show (ng && decide (0 < 0)) = false by simp] at hz
  have HZ:=hid hz
  have hp:(rep 10 0).length = 0:=rfl
  clear hlen hz
  cases ng
  all_goals
   go_wp2
   have hd:=fun x y => z0v x y HE.out.1 HE.out.2
   refine bodyPost_ret (by simp [results,Tryz.results41,go_sem,(hd _ _).1,(hd _ _).2]; rfl) rfl ?_
   have hg:=fun x y => z4e (w0:=w) (b:=w.heap.size + 1) HZ.out HK.out HX.out (by omega) HSZ.out x y
   exact ⟨_,rfl,(hg _ _).1,(hg _ _).2⟩
end
section
open Go.RowKit
def zbe (o:Oper):Bool:=match o.op with
 | .move _ => true
 | .assign _ => true
 | .pick _ _ _ => true
 | .load _ _ => true
 | .build _ _ => true
 | .fieldAddr _ _ _ => true
 | .indexAddr _ _ _ => true
 | .binOp _ _ _ _ _ => true
 | .unOp _ _ _ => true
 | .convert _ _ _ => true
 | .extract _ _ => true
 | .call c => match c.callee with
  | .builtin .len => true
  | _ => false
 | _ => false
theorem z2y {P:Program} (s:Sem Value) (W:World):(∃ x w',(do pure (Next.value (← s)):Sem Next).run P W = .ok (.value x) w') ∨ (∃ h w',(do pure (Next.value (← s)):Sem Next).run P W = .halt h w'):=by
 simp only [Sem.run_bind]
 cases s.run P W with
 | ok x w' => exact .inl ⟨x,w',by simp⟩
 | halt h w' => exact .inr ⟨h,w',rfl⟩
theorem zk9 {P:Program} {o:Oper} (h:zbe o = true) (ρ:Operand → Value) (W:World):(∃ x w',(execOp ρ o).run P W = .ok (.value x) w') ∨ (∃ h w',(execOp ρ o).run P W = .halt h w'):=by
 unfold zbe at h
 unfold execOp
 cases hop:o.op with
 | move x => exact .inl ⟨_,_,rfl⟩
 | assign x => exact .inl ⟨_,_,rfl⟩
 | pick c a b =>
  simp only [Sem.run_bind]
  cases (asBool (ρ c)).run P W with
  | ok x w' => exact .inl ⟨_,w',rfl⟩
  | halt h w' => exact .inr ⟨h,w',rfl⟩
 | load t a => exact z2y _ W
 | build t a => exact z2y _ W
 | fieldAddr t a b => exact z2y _ W
 | indexAddr t a b => exact z2y _ W
 | binOp a b c d e => exact z2y _ W
 | unOp a b c => exact z2y _ W
 | convert a b c => exact z2y _ W
 | extract a b => exact z2y _ W
 | call c =>
  rw [hop] at h
  simp only at h
  split at h
  ·rename_i hc
   simp only [resolve,hc,Sem.run_bind,Sem.run_pure,Result.andThen_ok,invoke,builtin]
   cases (Builtin.len_ c.argTypes o.type (Array.map ρ c.args)).run P W with
   | ok x w' => exact .inl ⟨x,w',rfl⟩
   | halt h w' => exact .inr ⟨h,w',rfl⟩
  ·cases h
 | _ => rw [hop] at h; simp at h
theorem zco {P:Program} {ops:Array Oper} {S:World → Prop} {o:Oper} {v:Value} {a:Act} (hp:zbe o = true) (h:YieldsIn P ops S o v a):YieldsIf P ops S o v a:=by
 rcases h with ⟨hw,hv⟩ | ⟨hw,hv⟩
 ·refine .inl ⟨hw,fun W hW => ?_⟩
  have h1:=hv W hW
  unfold Oper.quietAt at h1
  rcases zk9 (P:=P) hp a.eval W with ⟨x,w',e⟩ | ⟨x,w',e⟩
  ·rw [e] at h1 ⊢
   simp only [Oper.quietUpon] at h1
   rw [h1.1,h1.2]
  ·rw [e] at h1
   exact absurd h1 (by simp [Oper.quietUpon])
 ·exact .inr ⟨hw,hv⟩
def znz (md:Region.Mode) (ops:Array Oper) (g:Nat):List Oper → Nat → Array Bool → Bool
 | [],k,listed => Region.seqB md ops g k listed
 | o :: l,k,listed => zbe o && (Region.ready md ops listed).contains k && Region.free md ops listed k && znz md ops g l (k + 1) (listed.setIfInBounds k true)
def zsy (S:World → Prop) (K:Act → World → Prop) (Q:Exit → Act → World → Prop):Exit → Act → World → Prop
 | .normal,a,w => S w ∧ K a w
 | ex,a,w => Q ex a w
def z9g (P:Program) (ops:Array Oper) (S:World → Prop) (Q:Exit → Act → World → Prop):List Oper → Act → World → Prop
 | [],a,w => Q .normal a w
 | o :: l,a,w => wpList P ops (zsy S (z9g P ops S Q l) Q) [o] a w
section
variable {P:Program} {md:Region.Mode} {ops:Array Oper} {S:World → Prop} {Q:Exit → Act → World → Prop}
theorem z8h:∀ (l:List Oper) (k:Nat) (listed:Array Bool) (a:Act) (w:World),(∀ j,l[j]? = ops[k + j]?) →
  Region.seqB md ops l.length k listed = true → z9g P ops S Q l a w → wpAnyH P md ops Q S l.length listed a w
 | [],_,_,_,_,_,hB,h => ⟨by simpa [Region.seqB] using hB,h⟩
 | o :: l,k,listed,a,w,hl,hB,h => by
  have h0:ops[k]? = some o:=by simpa using (hl 0).symm
  simp only [List.length_cons,Region.seqB,Bool.and_eq_true,decide_eq_true_eq] at hB
  refine ⟨fun h1 => (by rw [hB.1] at h1; cases h1),fun i hi => ?_⟩
  rw [hB.1] at hi
  have hik:i = k:=by simpa using hi
  subst hik
  have hrest:∀ a' w',(S w' ∧ z9g P ops S Q l a' w') → (S w' ∧ wpAnyH P md ops Q S l.length (listed.setIfInBounds i true) a' w'):=fun a' w' h' =>
   ⟨h'.1,z8h l (i + 1) _ a' w' (fun j => by have:=hl (j + 1); simpa [Nat.add_assoc,Nat.add_comm 1 j] using this) hB.2 h'.2⟩
  unfold z9g wpList at h
  unfold wpOp
  simp only [h0]
  have hu:∀ (K:Act → World → Prop) (r:Result Next),o.upon P a K (zsy S (z9g P ops S Q l) Q) r → o.upon P a K Q r:=by
   intro K r hr
   cases r with
   | ok n w' => cases n <;> exact hr
   | halt x w' => cases x <;> exact hr
  split
  ·rename_i hw
   rw [if_pos hw] at h
   rcases h with h | h
   ·exact .inl (Oper.wp_mono (fun a' w' h' => hrest a' w' h') (hu _ _ h))
   ·exact .inr h
  ·rename_i hw
   rw [if_neg hw] at h
   exact hrest _ _ h
theorem z8i (hsel:Region.noSelect ops = true) (hQ:∀ c a t v w,Q (.panic c) (a.put (some t) v) w → Q (.panic c) a w) {g:Nat} {w:World} (hS:S w) {L:Act → Prop} :
  ∀ (l:List Oper) (k:Nat) (listed:Array Bool) (a:Act),(∀ j,j < l.length → l[j]? = ops[k + j]?) → znz md ops g l k listed = true → wpQuiet P ops S L l a →
   (∀ listed' a',Region.seqB md ops g (k + l.length) listed' = true → L a' → wpAnyH P md ops Q S g listed' a' w) → wpAnyH P md ops Q S (l.length + g) listed a w
 | [],k,listed,a,_,hB,h,hL => by
  simp only [List.length_nil,Nat.zero_add]
  exact hL listed a hB h
 | o :: l,k,listed,a,hl,hB,h,hL => by
  have h0:ops[k]? = some o:=by simpa using (hl 0 (by simp)).symm
  simp only [znz,Bool.and_eq_true] at hB
  obtain ⟨⟨⟨hp,hr⟩,hf⟩,hB'⟩:=hB
  have hq:qOp P ops S k (wpQuiet P ops S L l) a:=by unfold qOp; simp only [h0]; exact h
  obtain ⟨v,hy,hK⟩:=yieldsIn_of_qOp h0 hq
  rw [show (o :: l).length + g = (l.length + g) + 1 by simp only [List.length_cons]; omega]
  refine wpAnyH_take h0 hsel hf hr (fun c a w hp => ?_) (zco hp hy) hS ?_
  ·cases hd:o.dst with
   | none => rw [hd] at hp; exact hp
   | some t => rw [hd] at hp; exact hQ c a t v w hp
  exact z8i hsel hQ hS l (k + 1) _ _ (fun j hj => by have:=hl (j + 1) (by simp; omega); simpa [Nat.add_assoc,Nat.add_comm 1 j] using this) hB' hK
   (fun listed' a' hs hLa => hL listed' a' (by rw [show k + (o :: l).length = k + 1 + l.length by simp only [List.length_cons]; omega]; exact hs) hLa)
theorem zbf {id:Nat} {a:Act} {w:World} {l:List Oper} (S:World → Prop) (n:Nat) (hm:P.follows .mixedOrders = true) (hsel:Region.noSelect l.toArray = true) (hn:n ≤ l.length)
  (hB:znz .any l.toArray (l.length - n) (l.take n) 0 (Array.replicate l.length false) = true) (hQ:∀ c a t v w,Q (.panic c) (a.put (some t) v) w → Q (.panic c) a w) (hS:S w.drew)
  (h:wpQuiet P l.toArray S (fun a' => z9g P l.toArray S Q (l.drop n) a' w.drew) (l.take n) a):(Code.region id l.toArray true).wp P Q a w:=by
 refine wp_region_held (S:=S) hm ?_
 have htl:(l.take n).length = n:=by simp; omega
 have hdl:(l.drop n).length = l.length - n:=by simp
 have H:=z8i (P:=P) (md:=.any) (ops:=l.toArray) (S:=S) (Q:=Q) hsel hQ (g:=l.length - n) (w:=w.drew) hS (l.take n) 0 (Array.replicate l.length false) a (fun j hj => by
  have hj':j < n:=by rw [htl] at hj; exact hj
  simp [hj']) hB h (fun listed' a' hs hL => by
   have:=z8h (P:=P) (md:=.any) (ops:=l.toArray) (S:=S) (Q:=Q) (l.drop n) n listed' a' w.drew (fun j => by simp [List.getElem?_drop]) (by rw [hdl]; rw [htl,Nat.zero_add] at hs; exact hs) hL
   rwa [hdl] at this)
 rw [htl,show n + (l.length - n) = l.length by omega] at H
 simpa using H
end
structure LaterB (B:Nat) (w:World) where
 w':World
 h:Below B w w'
theorem LaterB.cell {B:Nat} {w:World} (X:LaterB B w) {b i:Nat} {v:Value} (hb:b < B) (hc:w.cell? ⟨b,i,none⟩ = some v):X.w'.cell? ⟨b,i,none⟩ = some v:=zst X.h hb hc
end
section
open Go.RowKit
theorem zcp {w0 w1 w2:World} {b:Nat} {z:Int} {vm:Value} (hu:U32s (New w1 w2) w2 vm (rep B32 z.natAbs)) (h01:Ext w0 w1) (h12:Ext w1 w2) (hb0:w0.heap.size ≤ b) (hb1:b < w1.heap.size) (x y:Value) :
  IntV (New w0 ((w2.setCell ⟨b,0,none⟩ x).setCell ⟨b,1,none⟩ y)) ((w2.setCell ⟨b,0,none⟩ x).setCell ⟨b,1,none⟩ y) (.agg #[.bool (decide (z < 0)),vm]) (ofI z) ∧ Ext w0 ((w2.setCell ⟨b,0,none⟩ x).setCell ⟨b,1,none⟩ y) :=
 z3n (r:=ofI z) rfl hu h01 h12 hb0 hb1 x y
theorem zbg {S:Nat → Prop} (v:Value) (z:Int) (w:World) (h:ZV S w v z) (hS:∀ k,S k → k < w.heap.size) (hr:szZ z) :
  Calls Tryz.prog 52 #[v] w fun e w' => ∃ v',e = .returned v' ∧ IntV (New w w') w' v' (ofI z) ∧ Ext w w':=by
 obtain ⟨vd,rfl,hd⟩:=h
 have HD:=hid hd
 obtain ⟨a,c,rfl⟩:=hd.form
 obtain ⟨n,hn⟩:∃ n,n = (rep 10 z.natAbs).length:=⟨_,rfl⟩
 have hl:=hd.len_le
 have hpos:=z35 z.natAbs
 rw [← hn] at hpos hl ⊢
 have HDN:=hid hd
 rw [← hn] at HDN
 have hng:z < 0 → 0 < n:=fun h => by
  rw [decide_eq_decide] at hpos
  exact hpos.2 (by omega)
 obtain ⟨ng,hq⟩:∃ b,b = decide (z < 0):=⟨_,rfl⟩
 rw [← hq]
 have HQ:=hid hq
 have hng2:ng = true → 0 < n:=fun h => hng (by rw [h] at hq; simpa using hq.symm)
 clear hd hn hpos hng hq HD
 have HK:=hid (Ext.alloc (Ext.alloc (Ext.refl w) (.cells #[.bool ng,.slice a n c] 56)) (.cells #[.bool false,.slice none 0 0] 26))
 have HSZ:Hid (w.heap.size + 1 < ((w.alloc (.cells #[.bool ng,.slice a n c] 56)).alloc (.cells #[.bool false,.slice none 0 0] 26)).heap.size):=hid (by simp)
 have x0:=(Ext.refl ((w.alloc (.cells #[.bool ng,.slice a n c] 56)).alloc (.cells #[.bool false,.slice none 0 0] 26))).drew
 have HX0:=hid x0
 have S0:=old2 x0
 clear x0
 cases ng with
 | true =>
  have hp:=hng2 rfl
  clear hng2
  go_enter Tryz.func52,Tryz.ntmps52
  go_wp2
  go_region_held3 (fun W => W.cell? ⟨w.heap.size,0,none⟩ = some (.bool true) ∧ W.cell? ⟨w.heap.size,1,none⟩ = some (.slice a n c)) (first | exact S0 | exact S1 | exact ⟨z0b (z0b S1.1 (ab (by omega))) (ab (by omega)),z0b (z0b S1.2 (ab (by omega))) (ab (by omega))⟩)
   (first
    | (go_at_call 88; (with_reducible refine (zci _ z.natAbs _ (HDN.out.ext (HK.out.trans HX0.out) hS) (z0a hS (HK.out.trans HX0.out)) (Nat.le_trans hr (by decide))).mono ?_); rintro e w1 ⟨v1,rfl,hu1,hx1⟩; have S1:=old2 (HX0.out.trans hx1); obtain ⟨r0,r1,f0,f1⟩:=zeq (HX0.out.trans hx1); have HE:=hid (And.intro r0 r1); have HX1:=hid hx1; have HU1:=hid hu1; obtain ⟨a1,n1,rfl⟩:=hu1.form; clear hx1 hu1))
  go_wp2
  have hd:=fun x y => z0v x y HE.out.1 HE.out.2
  refine bodyPost_ret (by simp [results,Tryz.results52,go_sem,(hd _ _).1,(hd _ _).2]; rfl) rfl ?_
  have hg:=fun x y => zcp (w0:=w) (b:=w.heap.size + 1) HU1.out (HK.out.trans HX0.out) HX1.out (by omega) (Nat.lt_of_lt_of_le HSZ.out HX0.out.size) x y
  rw [← HQ.out] at hg
  exact ⟨_,rfl,(hg _ _).1,(hg _ _).2⟩
 | false =>
  clear hng2 S0
  have hBs:w.heap.size + 1 ≤ ((w.alloc (.cells #[.bool false,.slice a n c] 56)).alloc (.cells #[.bool false,.slice none 0 0] 26)).heap.size:=by simp
  have HBS:=hid hBs
  have e0:=old2 (Ext.refl ((w.alloc (.cells #[.bool false,.slice a n c] 56)).alloc (.cells #[.bool false,.slice none 0 0] 26)))
  have L0:=fun X:LaterB (w.heap.size + 1) ((w.alloc (.cells #[.bool false,.slice a n c] 56)).alloc (.cells #[.bool false,.slice none 0 0] 26)) => X.cell (Nat.lt_succ_self _) e0.1
  have L1:=fun X:LaterB (w.heap.size + 1) ((w.alloc (.cells #[.bool false,.slice a n c] 56)).alloc (.cells #[.bool false,.slice none 0 0] 26)) => X.cell (Nat.lt_succ_self _) e0.2
  have hne:Nonempty (LaterB (w.heap.size + 1) ((w.alloc (.cells #[.bool false,.slice a n c] 56)).alloc (.cells #[.bool false,.slice none 0 0] 26))):=⟨⟨_,(Below.refl _ _).mono hBs⟩⟩
  clear e0 hBs
  go_enter Tryz.func52,Tryz.ntmps52
  go_wp2
  refine zbf (fun W => ∃ X:LaterB (w.heap.size + 1) ((w.alloc (.cells #[.bool false,.slice a n c] 56)).alloc (.cells #[.bool false,.slice none 0 0] 26)),W = X.w') 10 (by kernel_rfl) (by kernel_rfl) (by simp) (by kernel_rfl) (fun _ _ _ _ _ h => h) ⟨⟨_,HX0.out.mono HBS.out⟩,rfl⟩ ?_
  simp only [List.take_succ_cons,List.take_zero,List.drop_succ_cons,List.drop_zero]
  repeat (go_big_quiet_step (fail))
  refine wpQuiet_nil ?_
  refine (show wpList _ _ _ [_] _ _ from ?_)
  go_wp2_with fail
  refine (zci _ z.natAbs _ (HDN.out.ext (HK.out.trans HX0.out) hS) (z0a hS (HK.out.trans HX0.out)) (Nat.le_trans hr (by decide))).mono ?_
  rintro e w1 ⟨v1,rfl,hu1,hx1⟩
  obtain ⟨r0,r1,f0,f1⟩:=zeq (HX0.out.trans hx1)
  have HE:=hid (And.intro r0 r1)
  have HX1:=hid hx1
  have HU1:=hid hu1
  obtain ⟨a1,n1,rfl⟩:=hu1.form
  clear hx1 hu1
  have HBW:Hid (Below (w.heap.size + 1) ((w.alloc (.cells #[.bool false,.slice a n c] 56)).alloc (.cells #[.bool false,.slice none 0 0] 26)) w1):=hid ((HX0.out.trans HX1.out).mono HBS.out)
  go_wp2
  refine ⟨⟨⟨w1,HBW.out⟩,rfl⟩,?_⟩
  refine (show wpList _ _ _ [_] _ _ from ?_)
  go_wp2
  refine ⟨⟨⟨w1,HBW.out⟩,rfl⟩,?_⟩
  refine (show wpList _ _ _ [_] _ _ from ?_)
  go_wp2
  refine ⟨⟨⟨_,(HBW.out.setCell (p:=⟨w.heap.size + 1,0,none⟩) (Nat.le_refl _) _).setCell (p:=⟨w.heap.size + 1,1,none⟩) (Nat.le_refl _) _⟩,rfl⟩,?_⟩
  unfold z9g
  go_wp2
  have hd:=fun x y => z0v x y HE.out.1 HE.out.2
  refine bodyPost_ret (by simp [results,Tryz.results52,go_sem,(hd _ _).1,(hd _ _).2]; rfl) rfl ?_
  have hg:=fun x y => zcp (w0:=w) (b:=w.heap.size + 1) HU1.out (HK.out.trans HX0.out) HX1.out (by omega) (Nat.lt_of_lt_of_le HSZ.out HX0.out.size) x y
  rw [← HQ.out] at hg
  exact ⟨_,rfl,(hg _ _).1,(hg _ _).2⟩
theorem z42 {S:Nat → Prop} (v:Value) (z:Int) (w:World) (h:ZV S w v z) :
  Calls Tryz.prog 34 #[v] w fun e w' => e = .returned (.int .i64 (z18 z)) ∧ Ext w w':=by
 obtain ⟨vd,rfl,hd⟩:=h
 obtain ⟨a,c,rfl⟩:=hd.form
 have hl:=hd.len_le
 have hpos:=z35 z.natAbs
 obtain ⟨n,hn⟩:∃ n,n = (rep 10 z.natAbs).length:=⟨_,rfl⟩
 rw [← hn] at hpos hl ⊢
 rw [decide_eq_decide] at hpos
 have HP:=hid hpos
 clear hd hpos hn
 rcases (show z < 0 ∨ z = 0 ∨ 0 < z by omega) with hz | hz | hz
 ·have hn0:0 < n:=HP.out.2 (by omega)
  have hb:((n:Int) == 0) = false:=by rw [beq_eq_false_iff_ne]; omega
  have hdz:decide (z < 0) = true:=decide_eq_true hz
  have HS:Hid (z18 z = -1):=hid (by unfold z18; rw [z2r]; exact hz)
  rw [hdz]
  have HK:=hid (Ext.alloc (Ext.refl w) (.cells #[.bool true,.slice a n c] 56))
  clear hdz hz
  go_enter Tryz.func34,Tryz.ntmps34
  go_wp2
  all_goals
   go_ret
   exact ⟨by rw [HS.out]; rfl,HK.out⟩
 ·have hn0:n = 0:=by
   have:=HP.out
   omega
  subst hn0
  have hdz:decide (z < 0) = false:=decide_eq_false (by omega)
  have HS:Hid (z18 z = 0):=hid (by unfold z18; rw [z5j]; exact hz)
  rw [hdz]
  have HK:=hid (Ext.alloc (Ext.refl w) (.cells #[.bool false,.slice a 0 c] 56))
  clear hdz hz
  go_enter Tryz.func34,Tryz.ntmps34
  go_wp2
  all_goals
   go_ret
   exact ⟨by rw [HS.out]; rfl,HK.out⟩
 ·have hn0:0 < n:=HP.out.2 (by omega)
  have hb:((n:Int) == 0) = false:=by rw [beq_eq_false_iff_ne]; omega
  have hdz:decide (z < 0) = false:=decide_eq_false (by omega)
  have HS:Hid (z18 z = 1):=hid (by unfold z18; rw [z41]; exact hz)
  rw [hdz]
  have HK:=hid (Ext.alloc (Ext.refl w) (.cells #[.bool false,.slice a n c] 56))
  clear hdz hz
  go_enter Tryz.func34,Tryz.ntmps34
  go_wp2
  all_goals
   go_ret
   exact ⟨by rw [HS.out]; rfl,HK.out⟩
theorem zo0 {S:Nat → Prop} (va vb:Value) (x y:RInt) (w:World) (ha:IntV S w va x) (hb:IntV S w vb y) (hS:∀ k,S k → k < w.heap.size) :
  Calls Tryz.prog 54 #[va,vb] w fun e w' => e = .returned (.bool (decide (x = y))) ∧ Ext w w':=by
 obtain ⟨xn,xs⟩:=x
 obtain ⟨yn,ys⟩:=y
 obtain ⟨vx,rfl,hu⟩:=ha
 obtain ⟨vy,rfl,hv⟩:=hb
 simp only at hu hv ⊢
 have HU:=hid hu
 have HV:=hid hv
 obtain ⟨a,c,rfl⟩:=hu.form
 obtain ⟨a2,c2,rfl⟩:=hv.form
 clear hu hv
 have HK:=hid (Ext.alloc (Ext.alloc (Ext.refl w) (.cells #[.bool xn,.slice a xs.length c] 26)) (.cells #[.bool yn,.slice a2 ys.length c2] 26))
 by_cases hxy:xn = yn
 ·subst hxy
  have HS:Hid (decide ((⟨xn,xs⟩:RInt) = ⟨xn,ys⟩) = decide (xs = ys)):=hid (by simp)
  go_enter Tryz.func54,Tryz.ntmps54
  go_wp2_with fail
  refine (zns _ _ xs ys _ (HU.out.ext HK.out hS) (HV.out.ext HK.out hS) (z0a hS HK.out)).mono ?_
  rintro e w1 ⟨rfl,hx⟩
  have HX:=hid hx
  clear hx
  go_wp2
  all_goals
   go_ret
   exact ⟨by rw [HS.out]; rfl,HK.out.trans HX.out⟩
 ·have hb:(xn == yn) = false:=by rw [beq_eq_false_iff_ne]; exact hxy
  have HS:Hid (decide ((⟨xn,xs⟩:RInt) = ⟨yn,ys⟩) = false):=hid (decide_eq_false (fun e => hxy (by cases e; rfl)))
  clear hxy
  go_enter Tryz.func54,Tryz.ntmps54
  go_wp2
  all_goals
   go_ret
   exact ⟨by rw [HS.out]; rfl,HK.out⟩
theorem zka {x:RInt} (h:okI x):decide (x = ofI (valI x)) = mayI x:=by
 cases hm:mayI x with
 | true => exact decide_eq_true (zb8 h hm).symm
 | false =>
  refine decide_eq_false (fun e => ?_)
  rw [e,zg4] at hm
  cases hm
theorem zqb {x:RInt} (h:okI x) (hr:x.mag.length ≤ 100000):szZ (valI x):=by
 unfold szZ
 have:(valI x).natAbs = val B32 x.mag:=by rw [zbd,zg8]
 rw [this]
 exact Nat.le_trans (zcf (z13 _ h)) (by omega)
theorem zr9 {S:Nat → Prop} (v:Value) (x:RInt) (w:World) (h:IntV S w v x) (hS:∀ k,S k → k < w.heap.size) (hr:x.mag.length ≤ 100000) :
  Calls Tryz.prog 42 #[v] w fun e w' => e = .returned (.bool (mayI x)) ∧ Ext w w':=by
 obtain ⟨vm,hv,hu⟩:=h
 have hok:okI x:=hu.lt
 have HM:=hid (zka hok)
 have HZ:=hid (zqb hok hr)
 have HR:=hid hr
 have HU:=hid hu
 obtain ⟨a,c,rfl⟩:=hu.form
 subst hv
 obtain ⟨xn,xs⟩:=x
 simp only at HU ⊢
 have HK:=hid (Ext.alloc (Ext.refl w) (.cells #[.bool xn,.slice a xs.length c] 26))
 have x0:=(Ext.refl (w.alloc (.cells #[.bool xn,.slice a xs.length c] 26))).drew
 have HX0:=hid x0
 have S0:=And.intro (new2 x0).1 (new2 x0).2.1
 clear hu hr hok x0
 go_enter Tryz.func42,Tryz.ntmps42
 go_wp2
 go_region_held3 (fun W => W.cell? ⟨w.heap.size,0,none⟩ = some (.bool xn) ∧ W.cell? ⟨w.heap.size,1,none⟩ = some (.slice a xs.length c)) (first | exact S0 | exact S1 | exact S2 | exact S3)
  (first
   | (go_at_call 41; (with_reducible refine (zcn _ ⟨xn,xs⟩ _ (z1v (HU.out.ext (HK.out.trans HX0.out) hS)) (z0a hS (HK.out.trans HX0.out)) HR.out).mono ?_); rintro e w1 ⟨v1,rfl,hz1,hx1⟩; have S1:=And.intro (hx1.cell S0.1) (hx1.cell S0.2); have HX1:=hid hx1; have HZ1:=hid hz1; clear hx1 hz1)
   | (go_at_call 52; (with_reducible refine (zbg _ _ _ HZ1.out New.lt HZ.out).mono ?_); rintro e w2 ⟨v2,rfl,hz2,hx2⟩; have S2:=And.intro (hx2.cell S1.1) (hx2.cell S1.2); have HX2:=hid hx2; have HZ2:=hid hz2; clear hx2 hz2)
   | (go_at_call 54; (with_reducible refine (zo0 (S:=fun k => k < w2.heap.size) _ _ ⟨xn,xs⟩ _ _ (IntV.to (z1v (HU.out.ext (HK.out.trans (HX0.out.trans (HX1.out.trans HX2.out))) hS)) (Kept.refl _ _) (z0a hS (HK.out.trans (HX0.out.trans (HX1.out.trans HX2.out))))) (HZ2.out.to (Kept.refl _ _) New.lt) (fun _ h => h)).mono ?_); rintro e w3 ⟨rfl,hx3⟩; have S3:=And.intro (hx3.cell S2.1) (hx3.cell S2.2); have HX3:=hid hx3; clear hx3))
 go_wp2
 all_goals
  go_ret
  exact ⟨by rw [← HM.out]; rfl,HK.out.trans (HX0.out.trans (HX1.out.trans (HX2.out.trans HX3.out)))⟩
end
section
open Go.RowKit
theorem z7d (n:Nat) (w:World) (hn:n < 9223372036854775808) :
  Calls Tryz.prog 36 #[.int .i64 (n:Nat)] w fun e w' => ∃ v',e = .returned v' ∧ ZV (New w w') w' v' (n:Int) ∧ Ext w w':=by
 have HK:=hid (Ext.alloc (Ext.refl w) (.cells #[.bool false,.slice none 0 0] 56))
 have HSZ:Hid (w.heap.size < (w.alloc (.cells #[.bool false,.slice none 0 0] 56)).heap.size):=hid (by simp)
 have HC:=hid (zch n (w.alloc (.cells #[.bool false,.slice none 0 0] 56)) (by omega))
 go_enter Tryz.func36,Tryz.ntmps36
 go_wp2_with fail
 refine HC.out.mono ?_
 rintro e w1 ⟨v1,rfl,hd,hx⟩
 obtain ⟨r0,r1,f0,f1⟩:=new2 hx
 have HE:=hid (And.intro r0 r1)
 have HX:=hid hx
 have HD:=hid hd
 obtain ⟨a1,n1,rfl⟩:=hd.form
 clear hd hx
 go_wp2
 have hd:=fun x y => z0v x y HE.out.1 HE.out.2
 refine bodyPost_ret (by simp [results,Tryz.results36,go_sem,(hd _ _).1,(hd _ _).2]; rfl) rfl ?_
 have hz:=zcm (b:=false) HD.out
 have hg:=fun x y => z4e (w0:=w) (b:=w.heap.size) hz HK.out HX.out (Nat.le_refl _) HSZ.out x y
 exact ⟨_,rfl,(hg _ _).1,(hg _ _).2⟩
theorem zsz (x y:Int):x * y = sg (decide (x < 0) != decide (y < 0)) (x.natAbs * y.natAbs):=by
 unfold sg
 rcases Int.lt_or_le x 0 with hx | hx <;> rcases Int.lt_or_le y 0 with hy | hy
 ·have e:(decide (x < 0) != decide (y < 0)) = false:=by simp [hx,hy]
  rw [e]
  simp only [Bool.false_eq_true,if_false,Int.natCast_mul]
  rw [Int.ofNat_natAbs_of_nonpos (by omega),Int.ofNat_natAbs_of_nonpos (by omega),Int.neg_mul_neg]
 ·have e:(decide (x < 0) != decide (y < 0)) = true:=by simp [hx,Int.not_lt.2 hy]
  rw [e]
  simp only [if_true,Int.natCast_mul]
  rw [Int.ofNat_natAbs_of_nonpos (by omega),Int.natAbs_of_nonneg hy,Int.neg_mul,Int.neg_neg]
 ·have e:(decide (x < 0) != decide (y < 0)) = true:=by simp [hy,Int.not_lt.2 hx]
  rw [e]
  simp only [if_true,Int.natCast_mul]
  rw [Int.natAbs_of_nonneg hx,Int.ofNat_natAbs_of_nonpos (by omega),Int.mul_neg,Int.neg_neg]
 ·have e:(decide (x < 0) != decide (y < 0)) = false:=by simp [Int.not_lt.2 hx,Int.not_lt.2 hy]
  rw [e]
  simp only [Bool.false_eq_true,if_false,Int.natCast_mul]
  rw [Int.natAbs_of_nonneg hx,Int.natAbs_of_nonneg hy]
theorem old4 {w W:World} {u0 v0 u1 v1:Value} {T0 T1:TypeId} {o:Obj} (h:Ext (((w.alloc (.cells #[u0,v0] T0)).alloc (.cells #[u1,v1] T1)).alloc o) W) :
  W.cell? ⟨w.heap.size,0,none⟩ = some u0 ∧ W.cell? ⟨w.heap.size,1,none⟩ = some v0 ∧ W.cell? ⟨w.heap.size + 1,0,none⟩ = some u1 ∧ W.cell? ⟨w.heap.size + 1,1,none⟩ = some v1:=by
 have e1:=(Ext.alloc (Ext.refl _) o).trans h
 exact ⟨(old2 e1).1,(old2 e1).2,(zeq e1).1,(zeq e1).2.1⟩
theorem zkb {w W:World} {u0 v0 u1 v1 u v:Value} {T0 T1 T:TypeId} (h:Ext (((w.alloc (.cells #[u0,v0] T0)).alloc (.cells #[u1,v1] T1)).alloc (.cells #[u,v] T)) W) :
  W.cell? ⟨w.heap.size + 1 + 1,0,none⟩ = some u ∧ W.cell? ⟨w.heap.size + 1 + 1,1,none⟩ = some v ∧ W.frozen? ⟨w.heap.size + 1 + 1,0,none⟩ = false ∧ W.frozen? ⟨w.heap.size + 1 + 1,1,none⟩ = false:=by
 have:=new2 h
 rw [size_alloc,size_alloc] at this
 exact this
theorem zkc {S:Nat → Prop} (vx vy:Value) (x y:Int) (w:World) (hx:ZV S w vx x) (hy:ZV S w vy y) (hS:∀ k,S k → k < w.heap.size) (hrx:szZ x) (hry:szZ y) :
  Calls Tryz.prog 75 #[vx,vy] w fun e w' => ∃ v',e = .returned v' ∧ ZV (New w w') w' v' (x * y) ∧ Ext w w':=by
 obtain ⟨vdx,rfl,hdx⟩:=hx
 obtain ⟨vdy,rfl,hdy⟩:=hy
 have HX:=hid hdx
 have HY:=hid hdy
 obtain ⟨ax,cx,rfl⟩:=hdx.form
 obtain ⟨ay,cy,rfl⟩:=hdy.form
 rw [zsz x y]
 obtain ⟨n,hn⟩:∃ n,n = x.natAbs * y.natAbs:=⟨_,rfl⟩
 rw [← hn]
 obtain ⟨bx,hbx⟩:∃ b,b = decide (x < 0):=⟨_,rfl⟩
 obtain ⟨bz,hbz⟩:∃ b,b = decide (y < 0):=⟨_,rfl⟩
 obtain ⟨nx,hnx⟩:∃ n,n = (rep 10 x.natAbs).length:=⟨_,rfl⟩
 obtain ⟨ny,hny⟩:∃ n,n = (rep 10 y.natAbs).length:=⟨_,rfl⟩
 rw [← hbx,← hbz,← hnx,← hny]
 have HK:=hid (Ext.alloc (Ext.alloc (Ext.alloc (Ext.refl w) (.cells #[.bool bx,.slice ax nx cx] 56)) (.cells #[.bool bz,.slice ay ny cy] 56)) (.cells #[.bool false,.slice none 0 0] 56))
 have hc:=zr3 _ _ (rep 10 x.natAbs) (rep 10 y.natAbs) _ (HX.out.ext HK.out hS) (HY.out.ext HK.out hS) (z0a hS HK.out) (Nat.le_trans hrx (by decide)) (Nat.le_trans hry (by decide))
 rw [z0c z05,z0c z05,← hn,← hnx,← hny] at hc
 have HC:=hid hc
 have HSZ:Hid (w.heap.size + 1 + 1 < (((w.alloc (.cells #[.bool bx,.slice ax nx cx] 56)).alloc (.cells #[.bool bz,.slice ay ny cy] 56)).alloc (.cells #[.bool false,.slice none 0 0] 56)).heap.size):=hid (by simp)
 have l1:=hdx.len_le
 have l2:=hdy.len_le
 rw [← hnx] at l1
 rw [← hny] at l2
 clear hdx hdy hn hbx hbz hnx hny hc hrx hry HX HY
 obtain ⟨q0,q1,q2,q3⟩:=old4 (Ext.refl (((w.alloc (.cells #[.bool bx,.slice ax nx cx] 56)).alloc (.cells #[.bool bz,.slice ay ny cy] 56)).alloc (.cells #[.bool false,.slice none 0 0] 56)))
 go_enter Tryz.func75,Tryz.ntmps75
 go_wp2_with fail
 refine HC.out.mono ?_
 rintro e w1 ⟨v1,rfl,hd,hxx⟩
 obtain ⟨p0,p1,p2,p3⟩:=old4 hxx
 obtain ⟨r0,r1,f0,f1⟩:=zkb hxx
 have HE:=hid (And.intro r0 r1)
 have HXX:=hid hxx
 have HD:=hid hd
 obtain ⟨a1,n1,rfl⟩:=hd.form
 have hlen:=z35 n
 have hz:=zcm (b:=(bx != bz)) HD.out
 clear hd hxx q0 q1 q2 q3
 by_cases h0:0 < n
 ·have hp:0 < (rep 10 n).length:=by simpa [h0] using hlen
  rw [show ((bx != bz) && decide (0 < n)) = (bx != bz) by simp [h0]] at hz
  have HZ:=hid hz
  clear hlen hz
  cases bx <;> cases bz
  all_goals
   go_wp2
   have hd:=fun x y => z0v x y HE.out.1 HE.out.2
   refine bodyPost_ret (by simp [results,Tryz.results75,go_sem,(hd _ _).1,(hd _ _).2]; rfl) rfl ?_
   have hg:=fun x y => z4e (w0:=w) (b:=w.heap.size + 1 + 1) HZ.out HK.out HXX.out (by omega) HSZ.out x y
   exact ⟨_,rfl,(hg _ _).1,(hg _ _).2⟩
 ·obtain rfl:n = 0:=by omega
  rw [show ((bx != bz) && decide (0 < 0)) = false by simp] at hz
  have HZ:=hid hz
  have hp:(rep 10 0).length = 0:=rfl
  clear hlen hz
  cases bx <;> cases bz
  all_goals
   go_wp2
   have hd:=fun x y => z0v x y HE.out.1 HE.out.2
   refine bodyPost_ret (by simp [results,Tryz.results75,go_sem,(hd _ _).1,(hd _ _).2]; rfl) rfl ?_
   have hg:=fun x y => z4e (w0:=w) (b:=w.heap.size + 1 + 1) HZ.out HK.out HXX.out (by omega) HSZ.out x y
   exact ⟨_,rfl,(hg _ _).1,(hg _ _).2⟩
end
section
open Go.RowKit
theorem zo1 {x y:Int} (h:decide (x < 0) = decide (y < 0)):x + y = sg (decide (x < 0)) (x.natAbs + y.natAbs):=by
 unfold sg
 rw [decide_eq_decide] at h
 by_cases hx:x < 0
 ·have hy:=h.1 hx
  rw [decide_eq_true hx,if_pos rfl]
  omega
 ·have hy:¬ y < 0:=fun e => hx (h.2 e)
  rw [decide_eq_false hx,if_neg (by simp)]
  omega
theorem zqc {x y:Int} (h:¬ decide (x < 0) = decide (y < 0)) (hge:y.natAbs ≤ x.natAbs):x + y = sg (decide (x < 0)) (x.natAbs - y.natAbs):=by
 unfold sg
 rw [decide_eq_decide] at h
 by_cases hx:x < 0
 ·rw [decide_eq_true hx,if_pos rfl]
  omega
 ·rw [decide_eq_false hx,if_neg (by simp)]
  omega
theorem zt0 {x y:Int} (h:¬ decide (x < 0) = decide (y < 0)) (hlt:x.natAbs < y.natAbs):x + y = sg (decide (y < 0)) (y.natAbs - x.natAbs):=by
 rw [Int.add_comm]
 exact zqc (fun e => h e.symm) (Nat.le_of_lt hlt)
theorem zkd {x y:Int} (_h:decide (x < 0) = decide (y < 0)):(decide (x < 0) && decide (0 < x.natAbs + y.natAbs)) = decide (x < 0):=by
 by_cases hx:x < 0
 ·have:0 < x.natAbs + y.natAbs:=by omega
  simp [hx,this]
 ·simp [hx]
theorem zcq {S:Nat → Prop} (vx vy:Value) (x y:Int) (w:World) (hx:ZV S w vx x) (hy:ZV S w vy y) (hS:∀ k,S k → k < w.heap.size) (hrx:szZ x) (hry:szZ y) (hs:decide (x < 0) = decide (y < 0)) :
  Calls Tryz.prog 77 #[vx,vy] w fun e w' => ∃ v',e = .returned v' ∧ ZV (New w w') w' v' (x + y) ∧ Ext w w':=by
 obtain ⟨vdx,rfl,hdx⟩:=hx
 obtain ⟨vdy,rfl,hdy⟩:=hy
 have HX:=hid hdx
 have HY:=hid hdy
 obtain ⟨ax,cx,rfl⟩:=hdx.form
 obtain ⟨ay,cy,rfl⟩:=hdy.form
 rw [zo1 hs]
 have hsg:=zkd hs
 obtain ⟨n,hn⟩:∃ n,n = x.natAbs + y.natAbs:=⟨_,rfl⟩
 obtain ⟨bx,hbx⟩:∃ b,b = decide (x < 0):=⟨_,rfl⟩
 obtain ⟨nx,hnx⟩:∃ n,n = (rep 10 x.natAbs).length:=⟨_,rfl⟩
 obtain ⟨ny,hny⟩:∃ n,n = (rep 10 y.natAbs).length:=⟨_,rfl⟩
 have HL:Hid ((rep 10 x.natAbs).length ≤ 10000000 ∧ (rep 10 y.natAbs).length ≤ 10000000):=hid ⟨Nat.le_trans hrx (by decide),Nat.le_trans hry (by decide)⟩
 rw [← hs,← hn,← hbx,← hnx,← hny]
 rw [← hn,← hbx] at hsg
 have HSG:=hid hsg
 have HN:=hid hn
 have HNX:=hid hnx
 have HNY:=hid hny
 have hb:(bx == bx) = true:=by simp
 have HK:=hid (Ext.alloc (Ext.alloc (Ext.alloc (Ext.refl w) (.cells #[.bool bx,.slice ax nx cx] 56)) (.cells #[.bool bx,.slice ay ny cy] 56)) (.cells #[.bool false,.slice none 0 0] 56))
 have HSZ:Hid (w.heap.size + 1 + 1 < (((w.alloc (.cells #[.bool bx,.slice ax nx cx] 56)).alloc (.cells #[.bool bx,.slice ay ny cy] 56)).alloc (.cells #[.bool false,.slice none 0 0] 56)).heap.size):=hid (by simp)
 have x0:=(Ext.refl (((w.alloc (.cells #[.bool bx,.slice ax nx cx] 56)).alloc (.cells #[.bool bx,.slice ay ny cy] 56)).alloc (.cells #[.bool false,.slice none 0 0] 56))).drew
 have HX0:=hid x0
 have hc:=zk1 _ _ (rep 10 x.natAbs) (rep 10 y.natAbs) _ (HX.out.ext (HK.out.trans x0) hS) (HY.out.ext (HK.out.trans x0) hS) (z0a hS (HK.out.trans x0)) HL.out.1 HL.out.2
 rw [z0c z05,z0c z05,← hn,← hnx,← hny] at hc
 have HC:=hid hc
 have S0:_ ∧ _ ∧ _:=And.intro (old4 x0).1 (And.intro (old4 x0).2.1 (old4 x0).2.2.2)
 have HS0:=hid S0
 clear hdx hdy hn hbx hnx hny hrx hry hs hsg hc x0 S0
 go_enter Tryz.func77,Tryz.ntmps77
 go_wp2
 have S0:=HS0.out
 go_region_held3 (fun W => W.cell? ⟨w.heap.size,0,none⟩ = some (.bool bx) ∧ W.cell? ⟨w.heap.size,1,none⟩ = some (.slice ax nx cx) ∧ W.cell? ⟨w.heap.size + 1,1,none⟩ = some (.slice ay ny cy)) (first | exact S0 | exact S1 | exact ⟨z0b (z0b S1.1 (ab (by omega))) (ab (by omega)),z0b (z0b S1.2.1 (ab (by omega))) (ab (by omega)),z0b (z0b S1.2.2 (ab (by omega))) (ab (by omega))⟩)
  (first
   | (go_at_call 74; (with_reducible refine HC.out.mono ?_); rintro e w1 ⟨v1,rfl,hd,hxx⟩; have S1:=And.intro (hxx.cell S0.1) (And.intro (hxx.cell S0.2.1) (hxx.cell S0.2.2)); obtain ⟨r0,r1,f0,f1⟩:=zkb (HX0.out.trans hxx); have HE:=hid (And.intro r0 r1); have HXX:=hid hxx; have HD:=hid hd; obtain ⟨a1,n1,rfl⟩:=hd.form; clear hd hxx))
 go_wp2
 have hd:=fun x y => z0v x y HE.out.1 HE.out.2
 refine bodyPost_ret (by simp [results,Tryz.results77,go_sem,(hd _ _).1,(hd _ _).2]; rfl) rfl ?_
 have hz:=zcm (b:=bx) HD.out
 rw [HSG.out] at hz
 have hg:=fun x y => z4e (w0:=w) (b:=w.heap.size + 1 + 1) hz (HK.out.trans HX0.out) HXX.out (by omega) (Nat.lt_of_lt_of_le HSZ.out HX0.out.size) x y
 exact ⟨_,rfl,(hg _ _).1,(hg _ _).2⟩
theorem zi4 {S:Nat → Prop} (vx vy:Value) (x y:Int) (w:World) (hx:ZV S w vx x) (hy:ZV S w vy y) (hS:∀ k,S k → k < w.heap.size) (hrx:szZ x) (hry:szZ y) (hs:¬ decide (x < 0) = decide (y < 0)) (hge:y.natAbs ≤ x.natAbs) :
  Calls Tryz.prog 77 #[vx,vy] w fun e w' => ∃ v',e = .returned v' ∧ ZV (New w w') w' v' (x + y) ∧ Ext w w':=by
 obtain ⟨vdx,rfl,hdx⟩:=hx
 obtain ⟨vdy,rfl,hdy⟩:=hy
 have HX:=hid hdx
 have HY:=hid hdy
 obtain ⟨ax,cx,rfl⟩:=hdx.form
 obtain ⟨ay,cy,rfl⟩:=hdy.form
 rw [zqc hs hge]
 have HCM:Hid (-1 < cmpN x.natAbs y.natAbs):=hid (by
  unfold cmpN
  have:=z2r (x:=(x.natAbs:Int)) (y:=(y.natAbs:Int))
  rcases z46 (x.natAbs:Int) (y.natAbs:Int) with h | h | h
  ·have:=this.1 h; omega
  ·omega
  ·omega)
 have HLE:Hid ((rep 10 y.natAbs).length ≤ (rep 10 x.natAbs).length):=hid (z0d z05 _ _ (Nat.lt_of_le_of_lt hge (z0s z05 _)))
 have HVL:Hid (val 10 (rep 10 y.natAbs) ≤ val 10 (rep 10 x.natAbs)):=hid (by rw [z0c z05,z0c z05]; exact hge)
 obtain ⟨n,hn⟩:∃ n,n = x.natAbs - y.natAbs:=⟨_,rfl⟩
 obtain ⟨bx,hbx⟩:∃ b,b = decide (x < 0):=⟨_,rfl⟩
 obtain ⟨bz,hbz⟩:∃ b,b = decide (y < 0):=⟨_,rfl⟩
 obtain ⟨nx,hnx⟩:∃ n,n = (rep 10 x.natAbs).length:=⟨_,rfl⟩
 obtain ⟨ny,hny⟩:∃ n,n = (rep 10 y.natAbs).length:=⟨_,rfl⟩
 have HL:Hid ((rep 10 x.natAbs).length ≤ 10000000 ∧ (rep 10 y.natAbs).length ≤ 10000000):=hid ⟨Nat.le_trans hrx (by decide),Nat.le_trans hry (by decide)⟩
 rw [← hn,← hbx,← hbz,← hnx,← hny]
 rw [← hbx,← hbz] at hs
 have hb:(bx == bz) = false:=by rw [beq_eq_false_iff_ne]; exact hs
 have HK:=hid (Ext.alloc (Ext.alloc (Ext.alloc (Ext.refl w) (.cells #[.bool bx,.slice ax nx cx] 56)) (.cells #[.bool bz,.slice ay ny cy] 56)) (.cells #[.bool false,.slice none 0 0] 56))
 have HSZ:Hid (w.heap.size + 1 + 1 < (((w.alloc (.cells #[.bool bx,.slice ax nx cx] 56)).alloc (.cells #[.bool bz,.slice ay ny cy] 56)).alloc (.cells #[.bool false,.slice none 0 0] 56)).heap.size):=hid (by simp)
 have hc1:=zej _ _ x.natAbs y.natAbs _ (HX.out.ext HK.out hS) (HY.out.ext HK.out hS) (z0a hS HK.out)
 rw [← hnx,← hny] at hc1
 obtain ⟨cm,hcm⟩:∃ c,c = cmpN x.natAbs y.natAbs:=⟨_,rfl⟩
 rw [← hcm] at hc1 HCM
 have HC1:=hid hc1
 have hc2:=fun W (hW:Ext (((w.alloc (.cells #[.bool bx,.slice ax nx cx] 56)).alloc (.cells #[.bool bz,.slice ay ny cy] 56)).alloc (.cells #[.bool false,.slice none 0 0] 56)) W) =>
  zek _ _ (rep 10 x.natAbs) (rep 10 y.natAbs) W (HX.out.ext (HK.out.trans hW) hS) (HY.out.ext (HK.out.trans hW) hS) (z0a hS (HK.out.trans hW)) HL.out.1 HLE.out HVL.out
 rw [z0c z05,z0c z05,← hn,← hnx,← hny] at hc2
 have HC2:=hid hc2
 clear hdx hdy hn hbx hbz hnx hny hrx hry hs hge hc1 hc2 hcm
 have hcm0:=HCM.out
 go_enter Tryz.func77,Tryz.ntmps77
 go_wp2_with fail
 refine HC1.out.mono ?_
 rintro e w1 ⟨rfl,hx1⟩
 obtain ⟨p0,p1,p2,p3⟩:=old4 hx1
 have HX1:=hid hx1
 clear hx1
 go_wp2_with fail
 refine (HC2.out w1 HX1.out).mono ?_
 rintro e w2 ⟨v2,rfl,hd,hx2⟩
 obtain ⟨q0,q1,q2,q3⟩:=old4 (HX1.out.trans hx2)
 obtain ⟨r0,r1,f0,f1⟩:=zkb (HX1.out.trans hx2)
 have HE:=hid (And.intro r0 r1)
 have HX2:=hid hx2
 have HD:=hid hd
 obtain ⟨a1,n1,rfl⟩:=hd.form
 have hlen:=z35 n
 have hz:=zcm (b:=bx) HD.out
 clear hd hx2 p0 p1 p2 p3
 by_cases h0:0 < n
 ·have hp:0 < (rep 10 n).length:=by simpa [h0] using hlen
  rw [show (bx && decide (0 < n)) = bx by simp [h0]] at hz
  have HZ:=hid hz
  clear hlen hz
  cases bx
  all_goals
   go_wp2
   have hd:=fun x y => z0v x y HE.out.1 HE.out.2
   refine bodyPost_ret (by simp [results,Tryz.results77,go_sem,(hd _ _).1,(hd _ _).2]; rfl) rfl ?_
   have hg:=fun x y => z4e (w0:=w) (b:=w.heap.size + 1 + 1) HZ.out (HK.out.trans HX1.out) HX2.out (by omega) (Nat.lt_of_lt_of_le HSZ.out HX1.out.size) x y
   exact ⟨_,rfl,(hg _ _).1,(hg _ _).2⟩
 ·obtain rfl:n = 0:=by omega
  rw [show (bx && decide (0 < 0)) = false by simp] at hz
  have HZ:=hid hz
  have hp:(rep 10 0).length = 0:=rfl
  clear hlen hz
  cases bx
  all_goals
   go_wp2
   have hd:=fun x y => z0v x y HE.out.1 HE.out.2
   refine bodyPost_ret (by simp [results,Tryz.results77,go_sem,(hd _ _).1,(hd _ _).2]; rfl) rfl ?_
   have hg:=fun x y => z4e (w0:=w) (b:=w.heap.size + 1 + 1) HZ.out (HK.out.trans HX1.out) HX2.out (by omega) (Nat.lt_of_lt_of_le HSZ.out HX1.out.size) x y
   exact ⟨_,rfl,(hg _ _).1,(hg _ _).2⟩
theorem fr4 {w W:World} {u0 v0 u1 v1:Value} {T0 T1:TypeId} {o:Obj} (h:Ext (((w.alloc (.cells #[u0,v0] T0)).alloc (.cells #[u1,v1] T1)).alloc o) W) :
  W.frozen? ⟨w.heap.size,0,none⟩ = false ∧ W.frozen? ⟨w.heap.size,1,none⟩ = false ∧ W.frozen? ⟨w.heap.size + 1,0,none⟩ = false ∧ W.frozen? ⟨w.heap.size + 1,1,none⟩ = false:=by
 have e1:=(Ext.alloc (Ext.refl _) o).trans h
 have e0:=(Ext.alloc (Ext.refl _) _).trans e1
 exact ⟨(new2 e0).2.2.1,(new2 e0).2.2.2,(zeq e1).2.2.1,(zeq e1).2.2.2⟩
def z7z (w:World) (b:Nat) (x0 x1 y0 y1:Value):World:=(((w.setCell ⟨b,0,none⟩ x0).setCell ⟨b,1,none⟩ x1).setCell ⟨b + 1,0,none⟩ y0).setCell ⟨b + 1,1,none⟩ y1
theorem zo2 {a w:World} (h:Ext a w) {b:Nat} (hb:a.heap.size ≤ b) (x0 x1 y0 y1:Value):Ext a (z7z w b x0 x1 y0 y1) :=
 (h.set2 hb x0 x1).set2 (Nat.le_trans hb (Nat.le_succ _)) y0 y1
theorem zke {w:World} {b:Nat} (x0 x1 y0 y1:Value):(z7z w b x0 x1 y0 y1).heap.size = w.heap.size:=by
 unfold z7z
 rw [z4z,z4z]
theorem zi5 {w:World} {b:Nat} {u0 u1 v0 v1:Value} (x0 x1 y0 y1:Value) (c0:w.cell? ⟨b,0,none⟩ = some u0) (c1:w.cell? ⟨b,1,none⟩ = some u1) (d0:w.cell? ⟨b + 1,0,none⟩ = some v0) (d1:w.cell? ⟨b + 1,1,none⟩ = some v1) :
  (z7z w b x0 x1 y0 y1).cell? ⟨b,0,none⟩ = some x0 ∧ (z7z w b x0 x1 y0 y1).cell? ⟨b,1,none⟩ = some x1 ∧ (z7z w b x0 x1 y0 y1).cell? ⟨b + 1,0,none⟩ = some y0 ∧ (z7z w b x0 x1 y0 y1).cell? ⟨b + 1,1,none⟩ = some y1:=by
 unfold z7z
 have h1:=z0v x0 x1 c0 c1
 have e0:=z0b (v:=x1) (z0b (v:=x0) d0 (ab (b:=b) (i:=0) (show b ≠ b + 1 by omega))) (ab (b:=b) (i:=1) (show b ≠ b + 1 by omega))
 have e1:=z0b (v:=x1) (z0b (v:=x0) d1 (ab (b:=b) (i:=0) (show b ≠ b + 1 by omega))) (ab (b:=b) (i:=1) (show b ≠ b + 1 by omega))
 have h2:=z0v y0 y1 e0 e1
 exact ⟨z0b (z0b h1.1 (ab (by omega))) (ab (by omega)),z0b (z0b h1.2 (ab (by omega))) (ab (by omega)),h2.1,h2.2⟩
theorem zg9 {w:World} {b c i:Nat} {u:Value} (x0 x1 y0 y1:Value) (h:w.cell? ⟨c,i,none⟩ = some u) (h1:b ≠ c) (h2:b + 1 ≠ c):(z7z w b x0 x1 y0 y1).cell? ⟨c,i,none⟩ = some u:=by
 unfold z7z
 exact z0b (z0b (z0b (z0b h (ab h1)) (ab h1)) (ab h2)) (ab h2)
theorem zcr {w:World} {b:Nat} {c:Addr} (x0 x1 y0 y1:Value) (h:w.frozen? c = false):(z7z w b x0 x1 y0 y1).frozen? c = false:=by
 unfold z7z
 exact z2u (z2u (z2u (z2u h)))
theorem zi6 {S:Nat → Prop} (vx vy:Value) (x y:Int) (w:World) (hx:ZV S w vx x) (hy:ZV S w vy y) (hS:∀ k,S k → k < w.heap.size) (hrx:szZ x) (hry:szZ y) (hs:¬ decide (x < 0) = decide (y < 0)) (hlt:x.natAbs < y.natAbs) :
  Calls Tryz.prog 77 #[vx,vy] w fun e w' => ∃ v',e = .returned v' ∧ ZV (New w w') w' v' (x + y) ∧ Ext w w':=by
 obtain ⟨vdx,rfl,hdx⟩:=hx
 obtain ⟨vdy,rfl,hdy⟩:=hy
 have HX:=hid hdx
 have HY:=hid hdy
 obtain ⟨ax,cx,rfl⟩:=hdx.form
 obtain ⟨ay,cy,rfl⟩:=hdy.form
 rw [zt0 hs hlt]
 have HCM:Hid (cmpN x.natAbs y.natAbs = -1):=hid (by
  unfold cmpN
  rw [z2r]
  omega)
 have HLE:Hid ((rep 10 x.natAbs).length ≤ (rep 10 y.natAbs).length):=hid (z0d z05 _ _ (Nat.lt_trans hlt (z0s z05 _)))
 have HVL:Hid (val 10 (rep 10 x.natAbs) ≤ val 10 (rep 10 y.natAbs)):=hid (by rw [z0c z05,z0c z05]; omega)
 obtain ⟨n,hn⟩:∃ n,n = y.natAbs - x.natAbs:=⟨_,rfl⟩
 obtain ⟨bx,hbx⟩:∃ b,b = decide (x < 0):=⟨_,rfl⟩
 obtain ⟨bz,hbz⟩:∃ b,b = decide (y < 0):=⟨_,rfl⟩
 obtain ⟨nx,hnx⟩:∃ n,n = (rep 10 x.natAbs).length:=⟨_,rfl⟩
 obtain ⟨ny,hny⟩:∃ n,n = (rep 10 y.natAbs).length:=⟨_,rfl⟩
 have HL:Hid ((rep 10 x.natAbs).length ≤ 10000000 ∧ (rep 10 y.natAbs).length ≤ 10000000):=hid ⟨Nat.le_trans hrx (by decide),Nat.le_trans hry (by decide)⟩
 rw [← hn,← hbx,← hbz,← hnx,← hny]
 rw [← hbx,← hbz] at hs
 have hb:(bx == bz) = false:=by rw [beq_eq_false_iff_ne]; exact hs
 have HK:=hid (Ext.alloc (Ext.alloc (Ext.alloc (Ext.refl w) (.cells #[.bool bx,.slice ax nx cx] 56)) (.cells #[.bool bz,.slice ay ny cy] 56)) (.cells #[.bool false,.slice none 0 0] 56))
 have HSZ:Hid (w.heap.size + 1 + 1 < (((w.alloc (.cells #[.bool bx,.slice ax nx cx] 56)).alloc (.cells #[.bool bz,.slice ay ny cy] 56)).alloc (.cells #[.bool false,.slice none 0 0] 56)).heap.size):=hid (by simp)
 have hc1:=zej _ _ x.natAbs y.natAbs _ (HX.out.ext HK.out hS) (HY.out.ext HK.out hS) (z0a hS HK.out)
 rw [← hnx,← hny,HCM.out] at hc1
 have HC1:=hid hc1
 have hc2:=fun W (hW:Ext w W) =>
  zek _ _ (rep 10 y.natAbs) (rep 10 x.natAbs) W (HY.out.ext hW hS) (HX.out.ext hW hS) (z0a hS hW) HL.out.2 HLE.out HVL.out
 rw [z0c z05,z0c z05,← hn,← hnx,← hny] at hc2
 have HC2:=hid hc2
 clear hdx hdy hn hbx hbz hnx hny hrx hry hs hlt hc1 hc2 HCM
 go_enter Tryz.func77,Tryz.ntmps77
 go_wp2_with fail
 refine HC1.out.mono ?_
 rintro e w1 ⟨rfl,hx1⟩
 obtain ⟨p0,p1,p2,p3⟩:=old4 hx1
 obtain ⟨g0,g1,g2,g3⟩:=fr4 hx1
 have HX1:=hid hx1
 have HP:=hid (And.intro p0 (And.intro p1 (And.intro p2 p3)))
 clear hx1
 go_wp2_with fail
 have hsw:=zo2 (HK.out.trans HX1.out) (Nat.le_refl _) (.bool bz) (.slice ay ny cy) (.bool bx) (.slice ax nx cx)
 have hq:=zi5 (.bool bz) (.slice ay ny cy) (.bool bx) (.slice ax nx cx) HP.out.1 HP.out.2.1 HP.out.2.2.1 HP.out.2.2.2
 obtain ⟨r0,r1,f0,f1⟩:=zkb HX1.out
 have hr0:=zg9 (.bool bz) (.slice ay ny cy) (.bool bx) (.slice ax nx cx) r0 (show w.heap.size ≠ w.heap.size + 1 + 1 by omega) (show w.heap.size + 1 ≠ w.heap.size + 1 + 1 by omega)
 have hr1:=zg9 (.bool bz) (.slice ay ny cy) (.bool bx) (.slice ax nx cx) r1 (show w.heap.size ≠ w.heap.size + 1 + 1 by omega) (show w.heap.size + 1 ≠ w.heap.size + 1 + 1 by omega)
 have hf0:=zcr (b:=w.heap.size) (.bool bz) (.slice ay ny cy) (.bool bx) (.slice ax nx cx) f0
 have hf1:=zcr (b:=w.heap.size) (.bool bz) (.slice ay ny cy) (.bool bx) (.slice ax nx cx) f1
 have hsz:=zke (w:=w1) (b:=w.heap.size) (.bool bz) (.slice ay ny cy) (.bool bx) (.slice ax nx cx)
 have HSW:=hid hsw
 have HQ:=hid hq
 have HR:=hid (And.intro hr0 hr1)
 have HF:=hid (And.intro hf0 hf1)
 have HZS:=hid hsz
 clear hsw hq r0 r1 f0 f1 hr0 hr1 hf0 hf1 hsz p0 p1 p2 p3 g0 g1 g2 g3
 obtain ⟨W0,hW0⟩:∃ W,W = z7z w1 w.heap.size (.bool bz) (.slice ay ny cy) (.bool bx) (.slice ax nx cx):=⟨_,rfl⟩
 rw [← hW0] at HSW HQ HR HF HZS
 refine (Calls.mono (by have:=HC2.out W0 HSW.out; rw [hW0] at this; exact this) ?_)
 rintro e w2 ⟨v2,rfl,hd,hx2⟩
 rw [← hW0] at hd hx2
 have q0:=hx2.cell HQ.out.1
 have q1:=hx2.cell HQ.out.2.1
 have r0:=hx2.cell HR.out.1
 have r1:=hx2.cell HR.out.2
 have hszw:w.heap.size + 1 + 1 < W0.heap.size:=by rw [HZS.out]; exact Nat.lt_of_lt_of_le HSZ.out HX1.out.size
 have f0:=hx2.free hszw HF.out.1
 have f1:=hx2.free hszw HF.out.2
 have HE:=hid (And.intro r0 r1)
 have HX2:=hid hx2
 have HSZ2:=hid hszw
 have HD:=hid hd
 obtain ⟨a1,n1,rfl⟩:=hd.form
 have hlen:=z35 n
 have hz:=zcm (b:=bz) HD.out
 clear hd hx2 hW0 hszw
 by_cases h0:0 < n
 ·have hp:0 < (rep 10 n).length:=by simpa [h0] using hlen
  rw [show (bz && decide (0 < n)) = bz by simp [h0]] at hz
  have HZ:=hid hz
  clear hlen hz
  cases bz
  all_goals
   go_wp2
   have hd:=fun x y => z0v x y HE.out.1 HE.out.2
   refine bodyPost_ret (by simp [results,Tryz.results77,go_sem,(hd _ _).1,(hd _ _).2]; rfl) rfl ?_
   have hg:=fun x y => z4e (w0:=w) (b:=w.heap.size + 1 + 1) HZ.out HSW.out HX2.out (by omega) HSZ2.out x y
   exact ⟨_,rfl,(hg _ _).1,(hg _ _).2⟩
 ·obtain rfl:n = 0:=by omega
  rw [show (bz && decide (0 < 0)) = false by simp] at hz
  have HZ:=hid hz
  have hp:(rep 10 0).length = 0:=rfl
  clear hlen hz
  cases bz
  all_goals
   go_wp2
   have hd:=fun x y => z0v x y HE.out.1 HE.out.2
   refine bodyPost_ret (by simp [results,Tryz.results77,go_sem,(hd _ _).1,(hd _ _).2]; rfl) rfl ?_
   have hg:=fun x y => z4e (w0:=w) (b:=w.heap.size + 1 + 1) HZ.out HSW.out HX2.out (by omega) HSZ2.out x y
   exact ⟨_,rfl,(hg _ _).1,(hg _ _).2⟩
theorem zkf {S:Nat → Prop} (vx vy:Value) (x y:Int) (w:World) (hx:ZV S w vx x) (hy:ZV S w vy y) (hS:∀ k,S k → k < w.heap.size) (hrx:szZ x) (hry:szZ y) :
  Calls Tryz.prog 77 #[vx,vy] w fun e w' => ∃ v',e = .returned v' ∧ ZV (New w w') w' v' (x + y) ∧ Ext w w':=by
 by_cases hs:decide (x < 0) = decide (y < 0)
 ·exact zcq vx vy x y w hx hy hS hrx hry hs
 ·by_cases hge:y.natAbs ≤ x.natAbs
  ·exact zi4 vx vy x y w hx hy hS hrx hry hs hge
  ·exact zi6 vx vy x y w hx hy hS hrx hry hs (by omega)
end
section
open Go.RowKit
def zra (ts:List RTerm):Prop:=∀ t ∈ ts,t.c.mag.length ≤ 100000
theorem zrb {x:RInt} (hok:okI x) (h:mayI x = true):x.mag.length = 0 ↔ val B32 x.mag = 0:=by
 have e:=zb8 hok h
 have e2:(valI x).natAbs = val B32 x.mag:=by rw [zbd,zg8]
 have e3:x.mag = rep B32 (val B32 x.mag):=by
  rw [← e2]
  exact (congrArg RInt.mag e).symm
 constructor
 ·intro h0
  rw [List.length_eq_zero_iff.1 h0]
  rfl
 ·intro h0
  rw [h0,z2k] at e3
  rw [e3]
  rfl
theorem zer {t:RTerm} (_hok:okI t.c) (h:t.c.mag.length = 0):z17 t = false:=by
 have:t.c.mag = []:=List.length_eq_zero_iff.1 h
 unfold z17
 rw [this]
 rfl
theorem zi7 {t:RTerm} (hok:okI t.c) (h1:t.c.mag.length ≠ 0) (h2:mayI t.c = true) (h3:mayM t.m = true):z17 t = true:=by
 have h0:val B32 t.c.mag ≠ 0:=fun e => h1 ((zrb hok h2).2 e)
 unfold z17
 rw [h2,h3,decide_eq_true h0]
 rfl
theorem zao {a b:Mono} (ha:mayM a = true) (hb:mayM b = true):decide (0 < z3e a b) = (rcmp a b == 1):=by
 rw [zk7 ha hb]
 unfold z3e
 rw [ha,hb]
 simp only [Bool.and_self,if_true]
 rcases z12 ha hb with h | h | h <;> rw [h] <;> rfl
theorem zap {ts:List RTerm} {k:Nat} {u:RTerm} (hu:ts[k]? = some u):befT ts (k + 1) = some u:=hu
def zcs (ts:List RTerm) (k:Nat):Prop:=mayT ts = z3y (befT ts k) (ts.drop k) ∧ ∀ u,befT ts k = some u → mayM u.m = true
theorem zi8 (ts:List RTerm):zcs ts 0:=⟨rfl,fun u hu => by cases hu⟩
theorem z9h {ts:List RTerm} {k:Nat} {t:RTerm} (h:zcs ts k) (ht:ts[k]? = some t) (hm:z17 t = false):mayT ts = false:=by
 rw [h.1,z50 ht,hm]
 rfl
theorem zes {ts:List RTerm} {t:RTerm} (h:zcs ts 0) (ht:ts[0]? = some t) (hm:z17 t = true) (h3:mayM t.m = true):zcs ts 1:=by
 refine ⟨?_,fun u hu => ?_⟩
 ·rw [h.1,z50 ht,hm]
  rfl
 ·have:some t = some u:=ht.symm.trans hu
  cases this
  exact h3
theorem zi9 {ts:List RTerm} {k:Nat} {t u:RTerm} (h:zcs ts (k + 1)) (ht:ts[k + 1]? = some t) (hu:ts[k]? = some u) (hm:z17 t = true) (h3:mayM t.m = true) (hc:rcmp u.m t.m = 1):zcs ts (k + 1 + 1):=by
 have hum:=h.2 u hu
 refine ⟨?_,fun v hv => ?_⟩
 ·rw [h.1,z50 ht,hm,zap hu]
  simp only
  rw [zao hum h3,hc]
  rfl
 ·have:some t = some v:=ht.symm.trans hv
  cases this
  exact h3
theorem zia {ts:List RTerm} {k:Nat} {t u:RTerm} (h:zcs ts (k + 1)) (ht:ts[k + 1]? = some t) (hu:ts[k]? = some u) (h3:mayM t.m = true) (hc:¬ rcmp u.m t.m = 1):mayT ts = false:=by
 have hum:=h.2 u hu
 rw [h.1,z50 ht,zap hu]
 simp only
 rw [zao hum h3,beq_eq_false_iff_ne.2 hc]
 simp
theorem zkg {S:Nat → Prop} (v:Value) (ts:List RTerm) (w:World) (h:z0h S w v ts) (hS:∀ k,S k → k < w.heap.size) (hr:zra ts) :
  Calls Tryz.prog 13 #[v] w fun e w' => e = .returned (.bool (mayT ts)) ∧ Ext w w':=by
 have hnot:∀ (x:Bool) (w:World),(Op.unary .not (.bool x)).run Tryz.prog w = .ok (.bool (!x)) w:=fun _ _ => rfl
 have hl:=h.len_le
 have H:=hid h
 have HRS:=hid hr
 obtain ⟨a,cap,rfl⟩:=h.form
 clear h hr
 go_enter Tryz.func13,Tryz.ntmps13
 go_wp2
 go_loopw [3] (fun i wr => ∃ k:Nat,k ≤ ts.length ∧ i = .int .i64 k ∧ Ext w wr ∧ zcs ts k) (fun i _ => ts.length - (intOf i).toNat)
 case atStart => exact ⟨0,Nat.zero_le _,rfl,Ext.refl _,zi8 _⟩
 case round =>
  obtain ⟨k,hk,rfl,hx,hm⟩:=hrel
  have HM:=hid hm
  have HX:=hid hx
  by_cases hlt:k < ts.length
  ·obtain ⟨t,ht⟩:=z00 hlt
   obtain ⟨b,off,vm,vo,rfl,-,hn1,hm1,hSb,h1,h2,h3,h4,h5⟩:=H.out.cellAt ht
   have hsm:=HRS.out t (List.mem_of_getElem? ht)
   have HT:=hid ht
   have HOK:Hid (okI t.c):=hid h4.lt
   obtain ⟨⟨ng,zs⟩,m⟩:=t
   simp only at h1 h2 h3 h4 h5 hsm
   have H4:=hid h4
   have H5:=hid h5
   obtain ⟨am,cm,rfl⟩:=h4.form
   obtain ⟨ao,co,rfl⟩:=h5.form
   have hzl:=h4.len_le
   have g1:=Ext.cell hx h1
   have g2:=Ext.cell hx h2
   have g3:=Ext.cell hx h3
   have CZ:=zr9 (S:=S) _ ⟨ng,zs⟩ wr (z1v (H4.out.ext HX.out hS)) (z0a hS HX.out) hsm
   clear hm ht h1 h2 h3 h4 h5 hx hsm
   cases hi:mayI ⟨ng,zs⟩ with
   | false =>
    rw [hi] at CZ
    have HCZ:=hid CZ
    have HF:=hid (z9h HM.out HT.out (z6t hi))
    clear CZ hi
    go_wp2_with fail
    refine HCZ.out.mono ?_
    rintro e w1 ⟨rfl,hx1⟩
    have HX1:=hid (HX.out.trans hx1)
    clear hx1
    go_wp2
    all_goals
     go_ret
     exact ⟨by rw [HF.out]; rfl,HX1.out⟩
   | true =>
    rw [hi] at CZ
    have HCZ:=hid CZ
    have HI:=hid hi
    clear CZ hi
    by_cases hz:zs.length = 0
    ·have HF:=hid (z9h HM.out HT.out (zer HOK.out hz))
     have HCZ0:=HCZ.out
     simp only [hz] at g2 HCZ0
     have HCZ1:=hid HCZ0
     clear HCZ0
     go_wp2_with fail
     refine HCZ1.out.mono ?_
     rintro e w1 ⟨rfl,hx1⟩
     have HX1:=hid (HX.out.trans hx1)
     have k1:=hx1.cell g1
     have k2:=hx1.cell g2
     have k3:=hx1.cell g3
     clear hx1 g1 g2 g3
     go_wp2
     all_goals
      go_ret
      exact ⟨by rw [HF.out]; rfl,HX1.out⟩
    ·have hzb:((zs.length:Int) == 0) = false:=by rw [beq_eq_false_iff_ne]; omega
     go_wp2_with fail
     refine HCZ.out.mono ?_
     rintro e w1 ⟨rfl,hx1⟩
     have HX1:=hid (HX.out.trans hx1)
     have k1:=hx1.cell g1
     have k2:=hx1.cell g2
     have k3:=hx1.cell g3
     have CQ:=z7a (S:=S) _ m w1 (H5.out.ext HX1.out hS) (z0a hS HX1.out)
     clear hx1 g1 g2 g3
     cases hq:mayM m with
     | false =>
      rw [hq] at CQ
      have HCQ:=hid CQ
      have HF:=hid (z9h HM.out HT.out (z5o hq))
      clear CQ hq
      go_wp2_with fail
      refine HCQ.out.mono ?_
      rintro e w2 ⟨rfl,hx2⟩
      have HX2:=hid (HX1.out.trans hx2)
      clear hx2
      go_wp2
      all_goals
       go_ret
       exact ⟨by rw [HF.out]; rfl,HX2.out⟩
     | true =>
      rw [hq] at CQ
      have HCQ:=hid CQ
      have HQ:=hid hq
      have HMT:Hid (z17 ⟨⟨ng,zs⟩,m⟩ = true):=hid (zi7 HOK.out hz HI.out hq)
      clear CQ hq
      go_wp2_with fail
      refine HCQ.out.mono ?_
      rintro e w2 ⟨rfl,hx2⟩
      have HX2:=hid (HX1.out.trans hx2)
      have L3:=fun X:Later w2 => X.cell (hx2.cell k3)
      clear hx2 k1 k2 k3
      cases k with
      | zero =>
       have HF:=hid (zes HM.out HT.out HMT.out HQ.out)
       go_wp2
       refine z04 (by kernel_rfl) (by kernel_rfl) ?_
       repeat (go_big_quiet_step (fail))
       refine wpQuiet_nil ?_
       intro W hW
       have HW:=hid (HX2.out.trans hW)
       clear hW
       go_wp2
       go_roundw
       case rel => exact ⟨_,by omega,by go_num,HW.out,HF.out⟩
       case measure => simp only [intOf]; omega
      | succ k =>
       obtain ⟨u,hu⟩:=z00 (show k < ts.length by omega)
       obtain ⟨b',off',vmu,vou,hbb,-,-,-,-,u1,u2,u3,u4,u5⟩:=H.out.cellAt hu
       obtain ⟨rfl,rfl⟩:b = b' ∧ off = off':=by simpa using hbb
       have HP5:=hid u5
       have HU:=hid hu
       obtain ⟨ap,cp,rfl⟩:=u5.form
       have L4:=fun X:Later w2 => X.cell (HX2.out.cell u3)
       have hq0:((k:Nat):Int) + 1 - 1 = (k:Int):=by omega
       clear u1 u2 u3 u4 u5 hu hbb
       obtain ⟨rc,hrc⟩:∃ s,rcmp u.m m = s:=⟨_,rfl⟩
       have CO:=fun (W:World) (h1:Pows S W (.slice ap u.m.length cp) u.m) (h2:Pows S W (.slice ao m.length co) m) hs => z7c (S:=S) _ _ _ _ W h1 h2 hs
       simp only [hrc] at CO
       have HCO:=hid CO
       clear CO
       by_cases hc1:rc = 1
       ·subst hc1
        have HF:=hid (zi9 HM.out HT.out HU.out HMT.out HQ.out hrc)
        clear hrc
        go_wp2
        refine z04 (by kernel_rfl) (by kernel_rfl) ?_
        repeat (go_big_quiet_step (first | (go_at_call 44; exact Later.done (HCO.out _ (HP5.out.ext (HX2.out.trans (Later.h _)) hS) (H5.out.ext (HX2.out.trans (Later.h _)) hS) (z0a hS (HX2.out.trans (Later.h _)))))))
        refine wpQuiet_nil ?_
        intro W hW
        have HW:=hid (HX2.out.trans hW)
        clear hW
        go_wp2
        go_roundw
        case rel => exact ⟨_,by omega,by go_num,HW.out,HF.out⟩
        case measure => simp only [intOf]; omega
       ·have hbn:(rc != 1) = true:=by rw [bne_iff_ne]; exact hc1
        have HF:=hid (zia HM.out HT.out HU.out HQ.out (by rw [hrc]; exact hc1))
        clear hrc
        go_wp2
        refine z04 (by kernel_rfl) (by kernel_rfl) ?_
        repeat (go_big_quiet_step (first | (go_at_call 44; exact Later.done (HCO.out _ (HP5.out.ext (HX2.out.trans (Later.h _)) hS) (H5.out.ext (HX2.out.trans (Later.h _)) hS) (z0a hS (HX2.out.trans (Later.h _)))))))
        refine wpQuiet_nil ?_
        intro W hW
        have HW:=hid (HX2.out.trans hW)
        clear hW
        go_wp2
        all_goals
         go_ret
         exact ⟨by rw [HF.out]; rfl,HW.out⟩
  ·obtain rfl:k = ts.length:=by omega
   have HF:Hid (mayT ts = true):=hid (by rw [hm.1,List.drop_length]; rfl)
   clear hx hm
   go_wp2
   all_goals
    go_ret
    exact ⟨by rw [HF.out]; rfl,HX.out⟩
end
section
open Go.RowKit
def RTs (S:Nat → Prop) (w:World) (v:Value) (p:PZ):Prop :=
 ∃ b off,z31 S v p.length b off ∧ ∀ j t,p[j]? = some t → ∃ vd vo,w.cell? ⟨b,off + j * 3,none⟩ = some (.bool (decide (t.1 < 0))) ∧
  w.cell? ⟨b,off + j * 3 + 1,none⟩ = some vd ∧ w.cell? ⟨b,off + j * 3 + 2,none⟩ = some vo ∧ Digs S w vd (rep 10 t.1.natAbs) ∧ Pows S w vo t.2
section
variable {S S':Nat → Prop} {w w':World} {v:Value} {p:PZ}
theorem RTs.form (h:RTs S w v p):∃ a cap,v = .slice a p.length cap:=by
 obtain ⟨b,off,⟨a,cap,h1,_⟩,_⟩:=h
 exact ⟨a,cap,h1⟩
theorem RTs.to (h:RTs S w v p) (hk:Kept S w w') (hS:∀ k,S k → S' k):RTs S' w' v p:=by
 obtain ⟨b,off,hs,hc⟩:=h
 refine ⟨b,off,hs.mono hS,fun j t hj => ?_⟩
 obtain ⟨vm,vo,h1,h2,h3,h4,h5⟩:=hc j t hj
 have hb:=hs.in (z03 hj)
 exact ⟨vm,vo,hk.cell hb h1,hk.cell hb h2,hk.cell hb h3,h4.to hk hS,h5.to hk hS⟩
theorem RTs.ext (h:RTs S w v p) (hx:Ext w w') (hS:∀ k,S k → k < w.heap.size):RTs S w' v p:=h.to (Kept.ext hx hS) (fun _ h => h)
theorem RTs.len_le (h:RTs S w v p):p.length ≤ 9223372036854775807:=by
 obtain ⟨b,off,⟨a,cap,h1,h2,h3,_⟩,_⟩:=h
 unfold maxLen at h3
 omega
theorem RTs.cellAt {a:Option Addr} {n cap k:Nat} {t:Int × Mono} (h:RTs S w (.slice a n cap) p) (ht:p[k]? = some t) :
  ∃ b off vd vo,a = some ⟨b,off,none⟩ ∧ n = p.length ∧ n ≤ cap ∧ cap ≤ 9223372036854775807 ∧ S b ∧ w.cell? ⟨b,off + k * 3,none⟩ = some (.bool (decide (t.1 < 0))) ∧ w.cell? ⟨b,off + k * 3 + 1,none⟩ = some vd ∧ w.cell? ⟨b,off + k * 3 + 2,none⟩ = some vo ∧ Digs S w vd (rep 10 t.1.natAbs) ∧ Pows S w vo t.2:=by
 obtain ⟨b,off,⟨a',cap',h1,h2,h3,h4,h5⟩,hc⟩:=h
 obtain ⟨rfl,rfl,rfl⟩:a = a' ∧ n = p.length ∧ cap = cap':=by simpa using h1
 have hp:0 < p.length:=by have:=z03 ht; omega
 obtain ⟨vm,vo,g1,g2,g3,g4,g5⟩:=hc k t ht
 exact ⟨b,off,vm,vo,h4 hp,rfl,h2,h3,h5 hp,g1,g2,g3,g4,g5⟩
theorem RTs.nilv (S:Nat → Prop) (w:World) (a:Option Addr) (cap:Nat) (h:cap ≤ 9223372036854775807):RTs S w (.slice a 0 cap) [] :=
 ⟨0,0,⟨a,cap,rfl,Nat.zero_le _,h,fun h => absurd h (Nat.lt_irrefl 0),fun h => absurd h (Nat.lt_irrefl 0)⟩,fun j t hj => by simp at hj⟩
end
def z19 (S:Nat → Prop) (w:World):List Value → PZ → Prop
 | xs,[] => xs = []
 | xs,t :: r => ∃ vd vo ys,xs = .bool (decide (t.1 < 0)) :: vd :: vo :: ys ∧ Digs S w vd (rep 10 t.1.natAbs) ∧ Pows S w vo t.2 ∧ z19 S w ys r
section
variable {S S':Nat → Prop} {w w':World}
theorem z19.append {xs ys:List Value} {p q:PZ} (h:z19 S w xs p) (k:z19 S w ys q):z19 S w (xs ++ ys) (p ++ q):=by
 induction p generalizing xs with
 | nil =>
  have e:xs = []:=h
  subst e
  exact k
 | cons t r ih =>
  obtain ⟨vd,vo,zs,rfl,h1,h2,h3⟩:=h
  exact ⟨vd,vo,zs ++ ys,rfl,h1,h2,ih h3⟩
theorem z19.to {xs:List Value} {p:PZ} (h:z19 S w xs p) (hk:Kept S w w') (hS:∀ k,S k → S' k):z19 S' w' xs p:=by
 induction p generalizing xs with
 | nil => exact h
 | cons t r ih =>
  obtain ⟨vd,vo,zs,rfl,h1,h2,h3⟩:=h
  exact ⟨vd,vo,zs,rfl,h1.to hk hS,h2.to hk hS,ih h3⟩
theorem z19.length {xs:List Value} {p:PZ} (h:z19 S w xs p):xs.length = p.length * 3:=by
 induction p generalizing xs with
 | nil =>
  have e:xs = []:=h
  subst e
  rfl
 | cons t r ih =>
  obtain ⟨vd,vo,zs,rfl,h1,h2,h3⟩:=h
  simp only [List.length_cons,ih h3]
  omega
theorem z19.get {xs:List Value} {p:PZ} (h:z19 S w xs p) {j:Nat} {t:Int × Mono} (ht:p[j]? = some t) :
  ∃ vd vo,xs[j * 3]? = some (.bool (decide (t.1 < 0))) ∧ xs[j * 3 + 1]? = some vd ∧ xs[j * 3 + 2]? = some vo ∧ Digs S w vd (rep 10 t.1.natAbs) ∧ Pows S w vo t.2:=by
 induction p generalizing xs j with
 | nil => simp at ht
 | cons u r ih =>
  obtain ⟨vd,vo,zs,rfl,h1,h2,h3⟩:=h
  cases j with
  | zero =>
   obtain rfl:u = t:=by simpa using ht
   exact ⟨vd,vo,rfl,rfl,rfl,h1,h2⟩
  | succ j =>
   obtain ⟨vd',vo',g⟩:=ih h3 (j:=j) (by simpa using ht)
   refine ⟨vd',vo',?_⟩
   rw [show (j + 1) * 3 = j * 3 + 1 + 1 + 1 by omega]
   simpa using g
theorem z19.one {xs:List Value} {p:PZ} (h:z19 S w xs p):∀ u ∈ xs,u.oneCell' = true:=by
 induction p generalizing xs with
 | nil =>
  have e:xs = []:=h
  subst e
  intro u hu
  simp at hu
 | cons t r ih =>
  obtain ⟨vd,vo,zs,rfl,h1,h2,h3⟩:=h
  intro u hu
  simp only [List.mem_cons] at hu
  rcases hu with rfl | rfl | rfl | hu
  ·rfl
  ·obtain ⟨a,c,rfl⟩:=h1.form; rfl
  ·obtain ⟨a,c,rfl⟩:=h2.form; rfl
  ·exact ih h3 u hu
theorem z19.single {vd vo:Value} {t:Int × Mono} (h1:Digs S w vd (rep 10 t.1.natAbs)) (h2:Pows S w vo t.2):z19 S w [.bool (decide (t.1 < 0)),vd,vo] [t]:=⟨vd,vo,[],rfl,h1,h2,rfl⟩
end
theorem zkh {S:Nat → Prop} {w:World} {base:Nat} {e:TypeId} {v:Value} {xs:List Value} {p:PZ} (h:w.ownsRow base e 3 v p.length xs) (hc:z19 S w xs p) (hB:∀ k,base ≤ k → k < w.heap.size → S k):RTs S w v p:=by
 have hlt:=h.lt
 rcases h.2 with ⟨rfl,h0⟩ | ⟨g,cap,cur,rfl,hg,hh,h1,h2,h3,h4⟩
 ·obtain rfl:p = []:=List.length_eq_zero_iff.1 h0
  exact RTs.nilv _ _ _ _ (by omega)
 ·refine ⟨g,0,⟨_,cap,rfl,h1,h2,fun _ => rfl,fun _ => hB g (hlt g rfl).1 (hlt g rfl).2⟩,fun j t hj => ?_⟩
  obtain ⟨vd,vo,g1,g2,g3,g4,g5⟩:=hc.get hj
  have hb:=z03 hj
  refine ⟨vd,vo,?_,?_,?_,g4,g5⟩
  ·rw [h.cellAt (0 + j * 3) (by omega),Nat.zero_add]
   exact g1
  ·rw [h.cellAt (0 + j * 3 + 1) (by omega),Nat.zero_add]
   exact g2
  ·rw [h.cellAt (0 + j * 3 + 2) (by omega),Nat.zero_add]
   exact g3
theorem zaq {S:Nat → Prop} {w:World} {b:Nat}:∀ (p:PZ) (off:Nat),(∀ j t,p[j]? = some t → ∃ vd vo,w.cell? ⟨b,off + j * 3,none⟩ = some (.bool (decide (t.1 < 0))) ∧
  w.cell? ⟨b,off + j * 3 + 1,none⟩ = some vd ∧ w.cell? ⟨b,off + j * 3 + 2,none⟩ = some vo ∧ Digs S w vd (rep 10 t.1.natAbs) ∧ Pows S w vo t.2) →
  ∃ xs,z19 S w xs p ∧ ∀ j u,xs[j]? = some u → w.cell? ⟨b,off + j,none⟩ = some u
 | [],_,_ => ⟨[],rfl,fun j u hu => by simp at hu⟩
 | t :: r,off,h => by
  obtain ⟨vd,vo,h1,h2,h3,h4,h5⟩:=h 0 t rfl
  obtain ⟨ys,k1,k2⟩:=zaq r (off + 3) (fun j u hu => by
   have:=h (j + 1) u (by simpa using hu)
   rw [show off + (j + 1) * 3 = off + 3 + j * 3 by omega] at this
   exact this)
  refine ⟨_,⟨vd,vo,ys,rfl,h4,h5,k1⟩,fun j u hu => ?_⟩
  match j,hu with
  | 0,hu =>
   have e:_ = u:=Option.some.inj hu
   rw [← e]
   exact h1
  | 1,hu =>
   have e:_ = u:=Option.some.inj hu
   rw [← e]
   exact h2
  | 2,hu =>
   have e:_ = u:=Option.some.inj hu
   rw [← e]
   exact h3
  | j + 3,hu =>
   have:=k2 j u (by simpa using hu)
   rw [show off + (j + 3) = off + 3 + j by omega]
   exact this
theorem RTs.src {S:Nat → Prop} {w:World} {b off n cap k:Nat} {p:PZ} (h:RTs S w (.slice (some ⟨b,off,none⟩) n cap) p) (hk:k ≤ p.length) :
  ∃ news,zbb w (some ⟨b,off + k * 3,none⟩) (p.length - k) 3 news ∧ z19 S w news (p.drop k):=by
 obtain ⟨b',off',⟨a',cap',h1,h2,h3,h4,h5⟩,hc⟩:=h
 by_cases h0:0 < p.length
 ·have e:=h4 h0
  obtain ⟨e1,-,-⟩:some (⟨b,off,none⟩:Addr) = a' ∧ n = p.length ∧ cap = cap':=by simpa using h1
  rw [← e1] at e
  obtain ⟨rfl,rfl⟩:b = b' ∧ off = off':=by simpa using e
  obtain ⟨xs,k1,k2⟩:=zaq (S:=S) (w:=w) (b:=b) (p.drop k) (off + k * 3) (fun j t hj => by
   rw [List.getElem?_drop] at hj
   have:=hc (k + j) t hj
   rw [show off + (k + j) * 3 = off + k * 3 + j * 3 by omega] at this
   exact this)
  refine ⟨xs,⟨?_,k1.one,fun _ => ⟨_,rfl,fun j u hu => ?_⟩⟩,k1⟩
  ·rw [k1.length,List.length_drop]
  ·rw [z6u]
   exact k2 j u hu
 ·obtain rfl:p = []:=List.length_eq_zero_iff.1 (by omega)
  refine ⟨[],⟨by simp,fun u hu => by simp at hu,fun hh => by simp at hh⟩,?_⟩
  rw [List.drop_nil]
  rfl
theorem z6d {p:PZ} {c:Int} {m:Mono}:∀ {k:Nat},(∀ j t,j < k → p[j]? = some t → z0i t.2 m = 1) → putP p c m = p.take k ++ putP (p.drop k) c m
 | 0,_ => rfl
 | k + 1,h => by
  cases p with
  | nil => simp
  | cons t r =>
   have h0:=h 0 t (by omega) rfl
   have ih:=z6d (p:=r) (c:=c) (m:=m) (k:=k) (fun j u hj hu => h (j + 1) u (by omega) (by simpa using hu))
   simp only [putP,h0,if_true,List.take_succ_cons,List.drop_succ_cons,List.cons_append,ih]
def midP (c:Int) (m:Mono):PZ:=if c = 0 then [] else [(c,m)]
theorem zrc {p:PZ} {c:Int} {m:Mono} {k:Nat} (h:∀ j t,j < k → p[j]? = some t → z0i t.2 m = 1) (hk:k = p.length):putP p c m = p.take k ++ midP c m ++ p.drop k:=by
 rw [z6d h,hk,List.drop_length]
 simp [putP,midP]
theorem zo3 {p:PZ} {c:Int} {m:Mono} {k:Nat} {t:Int × Mono} (h:∀ j t,j < k → p[j]? = some t → z0i t.2 m = 1) (ht:p[k]? = some t) (hc:z0i t.2 m = 0):putP p c m = p.take k ++ midP (c + t.1) m ++ p.drop (k + 1):=by
 rw [z6d h,z7u ht,List.append_assoc]
 simp only [putP,hc,midP,if_true]
 rw [if_neg (by decide)]
 split <;> rfl
theorem zo4 {p:PZ} {c:Int} {m:Mono} {k:Nat} {t:Int × Mono} (h:∀ j t,j < k → p[j]? = some t → z0i t.2 m = 1) (ht:p[k]? = some t) (h1:z0i t.2 m ≠ 1) (h2:z0i t.2 m ≠ 0):putP p c m = p.take k ++ midP c m ++ p.drop k:=by
 rw [z6d h,z7u ht,List.append_assoc]
 simp only [putP,midP]
 rw [if_neg h1,if_neg h2]
 split <;> rfl
theorem z9i {c:Int} (h:c = 0) (m:Mono):midP c m = []:=by unfold midP; rw [if_pos h]
theorem z9j {c:Int} (h:c ≠ 0) (m:Mono):midP c m = [(c,m)]:=by unfold midP; rw [if_neg h]
theorem Tryz.infoT:(Tryz.prog.info? 95).map (fun i => (i.zero,i.size,i.bytes)) = some (some (.agg #[.bool false,.slice none 0 0,.slice none 0 0]),3,56):=by kernel_rfl
theorem z1x {u v x:Value} (h:u.oneCell' = true) (k:v.oneCell' = true) (l:x.oneCell' = true):∀ y ∈ (#[u,v,x]:Array Value).toList,y.oneCell' = true:=by
 intro y hy
 simp at hy
 rcases hy with rfl | rfl | rfl <;> assumption
end
section
open Go.RowKit
abbrev Old (w:World):Nat → Prop:=fun k => k < w.heap.size
theorem z2b {w W:World} (h:Ext w W):∀ k,Old w k → k < W.heap.size:=fun _ hk => Nat.lt_of_lt_of_le hk h.size
theorem RTs.on {w W:World} {v:Value} {p:PZ} (h:RTs (Old w) w v p) (hx:Ext w W):RTs (Old W) W v p:=h.to (Kept.ext hx (fun _ h => h)) (z2b hx)
theorem Pows.on {w W:World} {v:Value} {z:Mono} (h:Pows (Old w) w v z) (hx:Ext w W):Pows (Old W) W v z:=h.to (Kept.ext hx (fun _ h => h)) (z2b hx)
def szP (p:PZ):Prop:=p.length ≤ 1000000000000 ∧ ∀ t ∈ p,szZ t.1
theorem z1e {P:Program} (w:World) {ops:Array Oper} {rest:List Oper} {o:Oper} {a:Act} {Q:Exit → Act → World → Prop} (hgd:o.guard = none) (x y:Operand) (t e:TypeId)
  (ho:o.op = .slice t x (some y) none none) (ht:P.underlying t = some (.slice e)) {z:Option Value} {size bytes:Nat} (hinfo:(P.info? e).map (fun i => (i.zero,i.size,i.bytes)) = some (z,size,bytes))
  (A:Option Addr) (n cap k:Nat) (hx:a.eval x = .slice A n cap) (hy:a.eval y = .int .i64 (k:Nat)) (hk:k ≤ n)
  (h:∀ A',A' = (if cap = k then A else A.map (·.add (k * size))) → wpList P ops Q rest (a.put o.dst (.slice A' (n - k) (cap - k))) w):wpList P ops Q (o :: rest) a w:=by
 refine wpList_plain hgd fun K hK => ?_
 have he:P.elem t = e:=by simp [Program.elem,ht]
 have ht':P.underlying t = some (.slice (P.elem t)):=by rw [he]; exact ht
 have hi:∃ i,P.info? e = some i ∧ i.size = size:=by
  cases hh:P.info? e with
  | none => rw [hh] at hinfo; simp at hinfo
  | some i =>
   rw [hh] at hinfo
   simp at hinfo
   exact ⟨i,rfl,hinfo.2.1⟩
 obtain ⟨i,hi1,hi2⟩:=hi
 unfold Oper.wp execOp
 simp only [ho,Option.map,hx,hy]
 rw [Sem.run_bind,run_sliceAt_slice _ _ _ _ _ _ ht',run_slice_l _ _ _ _ _ ht' _ _ (by omega) (by omega)]
 simp only [he,sizeOf,typeInfo,Sem.run_bind,sliced,Int.toNat_natCast]
 have:=hK _ _ (h _ rfl)
 simpa [go_sem,hi1,hi2] using this
theorem z48 {S:Nat → Prop} {w:World} {A A':Option Addr} {n cap k:Nat} {p:PZ} (h:RTs S w (.slice A n cap) p) (hk:k ≤ p.length) (e:A' = (if cap = k then A else A.map (·.add (k * 3)))) :
  ∃ news,zbb w A' (p.length - k) 3 news ∧ z19 S w news (p.drop k):=by
 have h':=h
 obtain ⟨b,off,⟨a',cap',h1,h2,h3,h4,h5⟩,hc⟩:=h
 obtain ⟨rfl,rfl,rfl⟩:A = a' ∧ n = p.length ∧ cap = cap':=by simpa using h1
 by_cases hlt:k < p.length
 ·have ha:=h4 (by omega)
  subst ha
  rw [if_neg (by omega)] at e
  have e2:A' = some ⟨b,off + k * 3,none⟩:=by rw [e,Option.map_some,z6u]
  rw [e2]
  exact h'.src hk
 ·obtain rfl:k = p.length:=by omega
  refine ⟨[],⟨by simp,fun u hu => by simp at hu,fun hh => by omega⟩,?_⟩
  rw [List.drop_length]
  rfl
theorem z0o {w w':World} {base:Nat} {e:TypeId} {size:Nat} {v:Value} {n:Nat} {xs:List Value} (h:w.ownsRow base e size v n xs) (hx:Ext w w'):w'.ownsRow base e size v n xs :=
 h.kept (row:=none) ⟨hx.os,hx.tape,hx.output,hx.size,fun k hk _ => hx.block k hk⟩ (by
  cases hv:v.ownBlock with
  | none => exact .inl rfl
  | some k => exact .inr (by simp))
theorem zet {c:Int} (h:c ≠ 0):(z18 c != 0) = true:=by
 rw [bne_iff_ne]
 unfold z18
 rw [Ne,z5j]
 exact h
abbrev Plus (S:Nat → Prop) (w w1:World):Nat → Prop:=fun k => S k ∨ New w w1 k
theorem z2o {S:Nat → Prop} {w w1:World} (hS:∀ k,S k → k < w.heap.size) (hx:Ext w w1):∀ k,Plus S w w1 k → k < w1.heap.size:=fun k hk => by
 rcases hk with h | h
 ·exact Nat.lt_of_lt_of_le (hS k h) hx.size
 ·exact h.2
theorem z4f {S:Nat → Prop} {w w1 w2:World} (hx:w1.heap.size ≤ w2.heap.size):∀ k,Plus S w w1 k → Plus S w w2 k:=fun k hk => by
 rcases hk with h | h
 ·exact .inl h
 ·exact .inr ⟨h.1,Nat.lt_of_lt_of_le h.2 hx⟩
abbrev Off (S:Nat → Prop) (w w1:World) (o:Value):Nat → Prop:=fun k => Plus S w w1 k ∧ some k ≠ o.ownBlock
theorem z80 {S:Nat → Prop} {w w0 w1:World} {o v:Value} {z:List Nat} (hS:∀ k,S k → k < w.heap.size) (h0:Ext w w0) (h:Digs (Off S w w0 o) w0 v z) (hx:Ext w0 w1):Digs (Off S w w1 o) w1 v z :=
 h.to (Kept.ext hx (fun k h => z2o hS h0 k h.1)) (fun k h => ⟨z4f hx.size k h.1,h.2⟩)
theorem zqd {w w1:World} {o:Value} {e:TypeId} {size n:Nat} {xs:List Value} (ho:w1.ownsRow (w.heap.size + 1) e size o n xs) {k:Nat} (hk:k < w.heap.size):some k ≠ o.ownBlock:=fun e => by
 have:=(ho.lt k e.symm).1
 omega
theorem zki {S:Nat → Prop} {w w1:World} {o v:Value} {z:List Nat} {e:TypeId} {size n:Nat} {xs:List Value} (hS:∀ k,S k → k < w.heap.size) (h:Digs S w v z) (hx:Ext w w1) (ho:w1.ownsRow (w.heap.size + 1) e size o n xs):Digs (Off S w w1 o) w1 v z :=
 h.to (Kept.ext hx hS) (fun k hk => ⟨.inl hk,zqd ho (hS k hk)⟩)
theorem z36 {w w1 w2:World} {o:Value} {e:TypeId} {size n:Nat} {xs:List Value} (hx:Ext w w1) (ho:w1.ownsRow (w.heap.size + 1) e size o n xs) (hg:w1.grownBy w2 o.ownBlock):Ext w w2 :=
 z0j hx hg (fun k hk => by have:=(ho.lt k hk).1; omega)
theorem z81 {S:Nat → Prop} {w w1:World} {o:Value} {e:TypeId} {size n:Nat} {xs:List Value} (hS:∀ k,S k → k < w.heap.size) (ho:w1.ownsRow (w.heap.size + 1) e size o n xs) (hx:Ext w w1):∀ k,S k → k < w1.heap.size ∧ some k ≠ o.ownBlock:=fun k hk =>
 ⟨Nat.lt_of_lt_of_le (hS k hk) hx.size,zqd ho (hS k hk)⟩
theorem z9k {S:Nat → Prop} {w w1:World} {o v2:Value} {k:Nat} (hS:∀ k,S k → k < w.heap.size) (hx:Ext w w1) (h:Off S w w1 o k) (hb:v2.ownBlock = o.ownBlock ∨ v2.ownBlock = some (w1.heap.size + 1)):some k ≠ v2.ownBlock:=by
 rcases hb with e | e
 ·rw [e]; exact h.2
 ·rw [e]
  intro e2
  have:=z2o hS hx k h.1
  have e3:k = w1.heap.size + 1:=Option.some.inj e2
  omega
theorem zkj (w:World) (a:Addr) (u:Value):w.grownBy (w.setCell a u) (some a.block) :=
 ⟨rfl,rfl,rfl,Nat.le_of_eq (z06 w a u).symm,fun k _ hne => Below.heap_setCell _ _ _ _ (fun e => hne (by rw [e]))⟩
theorem zkk {w1:World} {b i base:Nat} {o:Value} {e:TypeId} {size n:Nat} {xs:List Value} (ho:w1.ownsRow base e size o n xs) (hb:b < base) (u:Value):(w1.setCell ⟨b,i,none⟩ u).ownsRow base e size o n xs :=
 ho.kept (zkj w1 ⟨b,i,none⟩ u) (by
  cases hv:o.ownBlock with
  | none => exact .inl rfl
  | some k =>
   have:=(ho.lt k hv).1
   exact .inr (fun e => by
    have e2:k = b:=Option.some.inj e
    omega))
theorem zrd {S:Nat → Prop} {w wb wc:World} {b i j:Nat} {o v x y:Value} {z:List Nat} {base:Nat} {e:TypeId} {size n:Nat} {xs:List Value} (h:Digs (New wb wc) wc v z) (ho:wb.ownsRow base e size o n xs) (hb:b < wb.heap.size) (hw:w.heap.size ≤ wb.heap.size) :
  Digs (Off S w ((wc.setCell ⟨b,i,none⟩ x).setCell ⟨b,j,none⟩ y) o) ((wc.setCell ⟨b,i,none⟩ x).setCell ⟨b,j,none⟩ y) v z:=by
 have k1:Kept (New wb wc) wc (wc.setCell ⟨b,i,none⟩ x):=Kept.setCell (a:=⟨b,i,none⟩) (fun hh => by have:=hh.1; simp only at this; omega) x
 have k2:Kept (New wb wc) (wc.setCell ⟨b,i,none⟩ x) ((wc.setCell ⟨b,i,none⟩ x).setCell ⟨b,j,none⟩ y):=Kept.setCell (a:=⟨b,j,none⟩) (fun hh => by have:=hh.1; simp only at this; omega) y
 refine h.to (k1.trans k2) (fun k hk => ⟨.inr ⟨Nat.le_trans hw hk.1,?_⟩,fun e => ?_⟩)
 ·rw [z06,z06]
  exact hk.2
 ·have:=(ho.lt k e.symm).2
  have:=hk.1
  omega
theorem z6e {S:Nat → Prop} {w w2 w3:World} {k j n:Nat} {T:TypeId} {v3:Value} {xs ms news:List Value} {p md q:PZ} (hS:∀ k,S k → k < w.heap.size) (hx:z19 S w xs (p.take k)) (x3:Ext w w3) (hm:z19 (Plus S w w3) w3 ms md) (hn:z19 S w2 news (p.drop j)) (hk:Kept S w2 w3)
  (ho:w3.ownsRow (w.heap.size + 1) T 3 v3 n (xs ++ ms ++ news)) (hq:q = p.take k ++ md ++ p.drop j):RTs (Plus S w w3) w3 v3 q:=by
 have hc:z19 (Plus S w w3) w3 (xs ++ ms ++ news) q:=by
  rw [hq]
  exact ((hx.to (Kept.ext x3 hS) (fun _ h => .inl h)).append hm).append (hn.to hk (fun _ h => .inl h))
 have hl:=hc.length
 have hn':n = q.length:=by
  have:=ho.1
  omega
 subst hn'
 exact zkh ho hc (fun k h1 h2 => .inr ⟨by omega,h2⟩)
theorem z5r {S:Nat → Prop} (vp vc vm:Value) (p:PZ) (c:Int) (m:Mono) (w:World) (hS:∀ k,S k → k < w.heap.size) (hp:RTs S w vp p) (hc:ZV S w vc c) (hm:Pows S w vm m) (hmay:z0p p) (hmm:mayM m = true) (hs:szP p) (hsc:szZ c) :
  Calls Tryz.prog 40 #[vp,vc,vm] w fun e w' => ∃ v',e = .returned v' ∧ RTs (Plus S w w') w' v' (putP p c m) ∧ Ext w w':=by
 obtain ⟨i0,hi,hz0,hz1,hz2⟩:=info_parts Tryz.infoT
 have HP:=hid hp
 have HM:=hid hm
 have HC:=hid hc
 have HMY:=hid hmay
 have HMM:=hid hmm
 have HS:=hid hs
 have HSC:=hid hsc
 obtain ⟨ap,cp,rfl⟩:=hp.form
 obtain ⟨ac,nc,cc,rfl⟩:=hc.form
 obtain ⟨am,cm,rfl⟩:=hm.form
 have hl:=hp.len_le
 clear hp hc hm hmay hmm hs hsc
 obtain ⟨bc,hbc⟩:∃ b,b = decide (c < 0):=⟨_,rfl⟩
 rw [← hbc] at HC ⊢
 have HK:=hid (Ext.alloc (Ext.refl w) (.cells #[.bool bc,.slice ac nc cc] 56))
 have HCC:=fun (W:World) (hW:Ext (w.alloc (.cells #[.bool bc,.slice ac nc cc] 56)) W) => new2 hW
 have HCC:=hid HCC
 have HBZ:=hid hbc
 have HDC:Hid (Digs S w (.slice ac nc cc) (rep 10 c.natAbs)):=by
  obtain ⟨vd,e1,e2⟩:=HC.out
  have e3:Value.slice ac nc cc = vd:=by simp at e1; exact e1.2
  rw [e3]
  exact hid e2
 clear hbc
 go_enter Tryz.func40,Tryz.ntmps40
 go_wp2
 go_loopw [7,8] (fun o v wr => ∃ k xs,k ≤ p.length ∧ v = .int .i64 (k:Nat) ∧ Ext (w.alloc (.cells #[.bool bc,.slice ac nc cc] 56)) wr ∧ Hid (∀ j t,j < k → p[j]? = some t → z0i t.2 m = 1) ∧ Hid (wr.ownsRow (w.heap.size + 1) 95 3 o k xs) ∧ Hid (z19 S w xs (p.take k))) (fun _ v _ => p.length - (intOf v).toNat)
 case atStart => exact ⟨0,[],Nat.zero_le _,rfl,Ext.refl _,hid (fun j t hj => by omega),hid (World.ownsRow_nil _ _ _ _),hid rfl⟩
 case round =>
  obtain ⟨k,xs,hk,rfl,hx,HPR,HW,HXS⟩:=hrel
  have HX:=hid hx
  by_cases hlt:k < p.length
  ·obtain ⟨t,ht⟩:=z00 hlt
   obtain ⟨b,off,vd,vo,rfl,-,hn1,hm1,hSb,h1,h2,h3,h4,h5⟩:=HP.out.cellAt ht
   have HT:=hid ht
   have H4:=hid h4
   have H5:=hid h5
   obtain ⟨ad,cd,rfl⟩:=h4.form
   obtain ⟨ao,co,rfl⟩:=h5.form
   have HXW0:=hid (HK.out.trans hx)
   have g1:=HXW0.out.cell h1
   have g2:=HXW0.out.cell h2
   have g3:=HXW0.out.cell h3
   have HTM:=hid (HMY.out t (List.mem_of_getElem? ht))
   have HSZT:=hid (HS.out.2 t (List.mem_of_getElem? ht))
   have CO:=fun (W:World) (hW:Ext w W) => z7c (S:=S) _ _ t.2 m W (H5.out.ext hW hS) (HM.out.ext hW hS) (z0a hS hW)
   rw [zk7 HTM.out HMM.out] at CO
   obtain ⟨rc,hrc⟩:∃ r,z0i t.2 m = r:=⟨_,rfl⟩
   rw [hrc] at CO
   have hcs:rc = 1 ∨ rc = 0 ∨ rc = -1:=by rw [← hrc]; rcases z12 HTM.out HMM.out with h | h | h <;> omega
   have HCO:=hid CO
   have HRC:=hid hrc
   obtain ⟨bt,hbt⟩:∃ b,b = decide (t.1 < 0):=⟨_,rfl⟩
   obtain ⟨nt,hnt⟩:∃ n,n = (rep 10 t.1.natAbs).length:=⟨_,rfl⟩
   rw [← hbt] at g1
   rw [← hnt] at g2 H4
   have HBT:=hid hbt
   have HTK:Hid (p.take (k + 1) = p.take k ++ [t]):=hid (by rw [List.take_add_one,ht]; rfl)
   have HSZ0:Hid (w.heap.size + 1 ≤ wr.heap.size):=hid (by have:=hx.size; rw [size_alloc] at this; exact this)
   clear CO hrc hx ht h1 h2 h3 h4 h5 hbt hnt
   rcases hcs with rfl | rfl | rfl
   ·go_wp2_with fail
    refine (HCO.out wr HXW0.out).mono ?_
    rintro e w1 ⟨rfl,hx1⟩
    have HX1:=hid (HX.out.trans hx1)
    have HW1:=hid (z0o HW.out hx1)
    have HSZ1:Hid (w.heap.size + 1 ≤ w1.heap.size):=hid (Nat.le_trans HSZ0.out hx1.size)
    have k1:=hx1.cell g1
    have k2:=hx1.cell g2
    have k3:=hx1.cell g3
    clear hx1 g1 g2 g3
    go_wp2_with (at_builtin; refine z1w _ rfl (.tmp 23) (.tmp 28) 61 rfl (w.heap.size + 1) 95 (.agg #[.bool false,.slice none 0 0,.slice none 0 0]) 3 56 Tryz.underlying61 Tryz.infoT rfl (by decide) _ k xs rfl HW1.out #[.bool bt,.slice ad nt cd,.slice ao t.2.length co] rfl (z1x rfl rfl rfl) rfl (by have:=HS.out.1; omega) (by decide) HSZ1.out ?_; intro v2 w2 hown hg _; have HW2:=hid hown; have HX2:=hid (z0j HX1.out hg (fun j hj => by have:=(HW1.out.lt j hj).1; rw [size_alloc]; exact this)); clear hown hg)
    go_roundw
    case rel =>
     refine ⟨k + 1,xs ++ (#[.bool bt,.slice ad nt cd,.slice ao t.2.length co]:Array Value).toList,by omega,by go_num,HX2.out,hid (fun j u hj hu => ?_),HW2,hid ?_⟩
     ·by_cases e:j = k
      ·subst e
       have:=HT.out.symm.trans hu
       cases this
       exact HRC.out
      ·exact HPR.out j u (by omega) hu
     ·rw [HTK.out]
      refine HXS.out.append ?_
      rw [HBT.out]
      exact z19.single H4.out H5.out
    case measure => simp only [intOf]; omega
   ·go_wp2_with fail
    refine (HCO.out wr HXW0.out).mono ?_
    rintro e wa ⟨rfl,hxa⟩
    have HXA:=hid (HX.out.trans hxa)
    have k1:=hxa.cell g1
    have k2:=hxa.cell g2
    have k3:=hxa.cell g3
    have HWA:=hid (z0o HW.out hxa)
    clear hxa g1 g2 g3
    go_wp2_with fail
    refine (HCO.out wa (HK.out.trans HXA.out)).mono ?_
    rintro e wb ⟨rfl,hxb⟩
    have HXB:=hid (HXA.out.trans hxb)
    have l1:=hxb.cell k1
    have l2:=hxb.cell k2
    have l3:=hxb.cell k3
    have HWB:=hid (z0o HWA.out hxb)
    obtain ⟨c0,c1,f0,f1⟩:=HCC.out wb HXB.out
    have HKB:=hid (HK.out.trans HXB.out.drew)
    have CA:=zkf (S:=S) _ _ c t.1 wb.drew (HC.out.ext HKB.out hS) (show ZV S wb.drew (.agg #[.bool (decide (t.1 < 0)),.slice ad nt cd]) t.1 from ⟨_,rfl,H4.out.ext HKB.out hS⟩) (z0a hS HKB.out) HSC.out HSZT.out
    rw [← HBT.out] at CA
    have HCA:=hid CA
    clear hxb k1 k2 k3 CA
    go_wp2
    go_still_tail 6,(by kernel_rfl)
    change wpList _ _ _ _ _ wb.drew
    go_wp2_with fail
    refine HCA.out.mono ?_
    rintro e wc ⟨vs,rfl,hzv,hxc⟩
    obtain ⟨vd2,rfl,hd2⟩:=hzv
    have HD2:=hid hd2
    obtain ⟨aq,cs,rfl⟩:=hd2.form
    obtain ⟨ns,hns⟩:∃ n,n = (rep 10 (c + t.1).natAbs).length:=⟨_,rfl⟩
    obtain ⟨bs,hbs⟩:∃ b,b = decide (c + t.1 < 0):=⟨_,rfl⟩
    have HBZ:=hid hbs
    rw [← hns] at HD2 ⊢
    rw [← hbs]
    obtain ⟨q0,q1,p0,p1⟩:=HCC.out wc (HXB.out.drew.trans hxc)
    obtain ⟨e0,e1⟩:=z0v (.bool bs) (.slice aq ns cs) q0 q1
    have HWC:=hid (zkk (i:=1) (zkk (i:=0) (z0o HWB.out ((Ext.refl wb).drew.trans hxc)) (Nat.lt_succ_self w.heap.size) (.bool bs)) (Nat.lt_succ_self w.heap.size) (.slice aq ns cs))
    have HSZC:Hid (w.heap.size + 1 ≤ wb.heap.size):=hid (by have:=HXB.out.size; rw [size_alloc] at this; exact this)
    have HXC:=hid (((HKB.out.trans hxc).setCell (p:=⟨w.heap.size,0,none⟩) (Nat.le_refl _) (.bool bs)).setCell (p:=⟨w.heap.size,1,none⟩) (Nat.le_refl _) (.slice aq ns cs))
    have HSZ2:Hid (w.heap.size + 1 ≤ ((wc.setCell ⟨w.heap.size,0,none⟩ (.bool bs)).setCell ⟨w.heap.size,1,none⟩ (.slice aq ns cs)).heap.size):=hid (by rw [z06,z06]; exact Nat.le_trans HSZC.out hxc.size)
    have HDC2:=hid (zrd (wb:=wb.drew) (b:=w.heap.size) (i:=0) (j:=1) (x:=.bool bs) (y:=.slice aq ns cs) HD2.out (z0o HWB.out ((Ext.refl wb).drew)) HSZC.out (Nat.le_trans (Nat.le_succ _) HSZC.out) (S:=S) (w:=w))
    have HPE:=hid (zo3 (c:=c) HPR.out HT.out HRC.out)
    have HJ:Hid (k + 1 ≤ p.length):=hid hlt
    clear hxc hd2 hns hbs c0 c1
    go_wp2_with fail
    obtain ⟨wz,hwz⟩:∃ W,W = (wc.setCell ⟨w.heap.size,0,none⟩ (.bool bs)).setCell ⟨w.heap.size,1,none⟩ (.slice aq ns cs):=⟨_,rfl⟩
    rw [← hwz] at HWC HXC HSZ2 HDC2 e0 e1 ⊢
    have HW:=HWC
    have HXW:Hid (Ext w wz):=HXC
    have HSZ:=HSZ2
    have HDZ:=HDC2
    have c0:=e0
    have c1:=e1
    clear hwz q0 q1 p0 p1 f0 f1 HWC HXC HSZ2 HDC2 e0 e1 HD2
    by_cases hz:c + t.1 = 0
    ·have CS:=hid (show Calls Tryz.prog 34 #[.agg #[.bool bs,.slice aq ns cs]] wz fun e w' => e = .returned (.int .i64 0) ∧ Ext wz w' from by have h:=z42 (S:=Off S w wz u7) _ (c + t.1) wz ⟨_,rfl,HDZ.out⟩; rw [← HBZ.out,show z18 (c + t.1) = 0 by rw [hz]; rfl] at h; exact h)
     have HZ:=hid hz
     clear hz
     refine CS.out.mono ?_
     rintro e w1 ⟨rfl,hx1⟩
     have HX1:=hid (HXW.out.trans hx1)
     have HW1:=hid (z0o HW.out hx1)
     have HSZ1:Hid (w.heap.size + 1 ≤ w1.heap.size):=hid (Nat.le_trans HSZ.out hx1.size)
     have HD1:=hid (z80 hS HXW.out HDZ.out hx1)
     clear hx1
     go_wp2_with (first | (refine z1e _ rfl (.tmp 65) (.tmp 66) 61 95 rfl Tryz.underlying61 Tryz.infoT (some ⟨b,off,none⟩) p.length cp (k + 1) rfl rfl HJ.out ?_; intro A' hA'; obtain ⟨news,hsrc,hcs⟩:=z48 (HP.out.ext HX1.out hS) HJ.out hA'; have HSRC:=hid hsrc; have HCS:=hid hcs; clear hA' hsrc hcs) | (at_builtin; refine z0m _ rfl (.tmp 64) (.tmp 67) 61 rfl (w.heap.size + 1) 95 i0 (.agg #[.bool false,.slice none 0 0,.slice none 0 0]) 3 56 Tryz.underlying61 hi hz0 hz1 hz2 rfl (by decide) _ ((k)) xs rfl HW1.out A' (p.length - (k + 1)) _ news rfl HSRC.out (by have:=HS.out.1; unfold maxLen; omega) (by have:=HS.out.1; omega) HSZ1.out ?_; intro v3 w3 hown hg _; have HW3:=hid hown; have HG3:=hid hg; clear hown hg))
     go_ret
     have hx3:=z36 HX1.out HW1.out HG3.out
     refine ⟨_,rfl,z6e (w:=w) hS (ms:=[]) (md:=[]) HXS.out hx3 rfl HCS.out (Kept.grown HG3.out (z81 hS HW1.out HX1.out)) (by simpa using HW3.out) (by rw [HPE.out,z9i HZ.out]),hx3⟩
    ·have CS:=hid (show Calls Tryz.prog 34 #[.agg #[.bool bs,.slice aq ns cs]] wz fun e w' => e = .returned (.int .i64 (z18 (c + t.1))) ∧ Ext wz w' from by rw [HBZ.out]; exact z42 (S:=Off S w wz u7) _ (c + t.1) wz ⟨_,rfl,HDZ.out⟩)
     have hsn:=zet hz
     have HZ:=hid hz
     clear hz
     refine CS.out.mono ?_
     rintro e w1 ⟨rfl,hx1⟩
     have HX1:=hid (HXW.out.trans hx1)
     have HW1:=hid (z0o HW.out hx1)
     have HSZ1:Hid (w.heap.size + 1 ≤ w1.heap.size):=hid (Nat.le_trans HSZ.out hx1.size)
     have HD1:=hid (z80 hS HXW.out HDZ.out hx1)
     have k0:=hx1.cell c0
     have k1:=hx1.cell c1
     clear hx1
     go_wp2_with (first | (refine z1e _ rfl (.tmp 65) (.tmp 66) 61 95 rfl Tryz.underlying61 Tryz.infoT (some ⟨b,off,none⟩) p.length cp (k + 1) rfl rfl HJ.out ?_; intro A' hA'; obtain ⟨news,hsrc,hcs⟩:=z48 (HP.out.ext HX2.out hS) HJ.out hA'; have HSRC:=hid hsrc; have HCS:=hid hcs; clear hA' hsrc hcs) | (first | (at_builtin; refine z1w _ rfl (.tmp 58) (.tmp 62) 61 rfl (w.heap.size + 1) 95 (.agg #[.bool false,.slice none 0 0,.slice none 0 0]) 3 56 Tryz.underlying61 Tryz.infoT rfl (by decide) _ (k) xs rfl HW1.out #[.bool bs,.slice aq ns cs,.slice am m.length cm] rfl (z1x rfl rfl rfl) rfl (by have:=HS.out.1; omega) (by decide) HSZ1.out ?_; intro v2 w2 hown hg hbk; have HW2:=hid hown; have HG2:=hid hg; have HBK:=hid hbk; have HX2:=hid (z36 HX1.out HW1.out hg); have HSZ2:Hid (w.heap.size + 1 ≤ w2.heap.size):=hid (Nat.le_trans HSZ1.out hg.size); clear hown hg hbk) | (at_builtin; refine z0m _ rfl (.tmp 64) (.tmp 67) 61 rfl (w.heap.size + 1) 95 i0 (.agg #[.bool false,.slice none 0 0,.slice none 0 0]) 3 56 Tryz.underlying61 hi hz0 hz1 hz2 rfl (by decide) _ ((k) + 1) (xs ++ (#[.bool bs,.slice aq ns cs,.slice am m.length cm]:Array Value).toList) rfl HW2.out A' (p.length - (k + 1)) _ news rfl HSRC.out (by have:=HS.out.1; unfold maxLen; omega) (by have:=HS.out.1; omega) HSZ2.out ?_; intro v3 w3 hown hg _; have HW3:=hid hown; have HG3:=hid hg; clear hown hg)))
     go_ret
     have hx3:=z36 HX2.out HW2.out HG3.out
     have hmid:z19 (Plus S w w3) w3 [.bool bs,.slice aq ns cs,.slice am m.length cm] [(c + t.1,m)]:=by
      have hd:=Digs.to HD1.out (Kept.grown HG2.out (fun j hj => ⟨z2o hS HX1.out j hj.1,hj.2⟩)) (fun _ h => h)
      have hd3:=Digs.to hd (Kept.grown HG3.out (fun j hj => ⟨Nat.lt_of_lt_of_le (z2o hS HX1.out j hj.1) HG2.out.size,z9k hS HX1.out hj HBK.out⟩)) (S':=Plus S w w3) (fun j hj => z4f (Nat.le_trans HG2.out.size HG3.out.size) j hj.1)
      rw [HBZ.out]
      exact z19.single (t:=(c + t.1,m)) hd3 (HM.out.to (Kept.ext hx3 hS) (fun _ h => .inl h))
     refine ⟨_,rfl,z6e (w:=w) hS (ms:=[.bool bs,.slice aq ns cs,.slice am m.length cm]) (md:=[(c + t.1,m)]) HXS.out hx3 hmid HCS.out (Kept.grown HG3.out (z81 hS HW2.out HX2.out)) HW3.out (by rw [HPE.out,z9j HZ.out]),hx3⟩
   ·go_wp2_with fail
    refine (HCO.out wr HXW0.out).mono ?_
    rintro e wa ⟨rfl,hxa⟩
    have HXA:=hid (HX.out.trans hxa)
    have k1:=hxa.cell g1
    have k2:=hxa.cell g2
    have k3:=hxa.cell g3
    have HWA:=hid (z0o HW.out hxa)
    clear hxa g1 g2 g3
    go_wp2_with fail
    refine (HCO.out wa (HK.out.trans HXA.out)).mono ?_
    rintro e wz ⟨rfl,hxb⟩
    have HXB:=hid (HXA.out.trans hxb)
    have HW:=hid (z0o HWA.out hxb)
    have HXW:=hid (HK.out.trans HXB.out)
    have HSZ:Hid (w.heap.size + 1 ≤ wz.heap.size):=hid (by have:=HXB.out.size; rw [size_alloc] at this; exact this)
    obtain ⟨c0,c1,f0,f1⟩:=HCC.out wz HXB.out
    have HDZ:=hid (zki hS HDC.out HXW.out HW.out)
    have HPE:=hid (zo4 (c:=c) HPR.out HT.out (by rw [HRC.out]; decide) (by rw [HRC.out]; decide))
    have HJ:Hid (k ≤ p.length):=hid hk
    clear hxb k1 k2 k3
    by_cases hz:c = 0
    ·have CS:=hid (show Calls Tryz.prog 34 #[.agg #[.bool bc,.slice ac nc cc]] wz fun e w' => e = .returned (.int .i64 0) ∧ Ext wz w' from by have h:=z42 (S:=Off S w wz u7) _ (c) wz ⟨_,rfl,HDZ.out⟩; rw [← HBZ.out,show z18 (c) = 0 by rw [hz]; rfl] at h; exact h)
     have HZ:=hid hz
     clear hz
     go_wp2_with fail
     refine CS.out.mono ?_
     rintro e w1 ⟨rfl,hx1⟩
     have HX1:=hid (HXW.out.trans hx1)
     have HW1:=hid (z0o HW.out hx1)
     have HSZ1:Hid (w.heap.size + 1 ≤ w1.heap.size):=hid (Nat.le_trans HSZ.out hx1.size)
     have HD1:=hid (z80 hS HXW.out HDZ.out hx1)
     clear hx1
     go_wp2_with (first | (refine z1e _ rfl (.tmp 65) (.tmp 66) 61 95 rfl Tryz.underlying61 Tryz.infoT (some ⟨b,off,none⟩) p.length cp (k) rfl rfl HJ.out ?_; intro A' hA'; obtain ⟨news,hsrc,hcs⟩:=z48 (HP.out.ext HX1.out hS) HJ.out hA'; have HSRC:=hid hsrc; have HCS:=hid hcs; clear hA' hsrc hcs) | (at_builtin; refine z0m _ rfl (.tmp 64) (.tmp 67) 61 rfl (w.heap.size + 1) 95 i0 (.agg #[.bool false,.slice none 0 0,.slice none 0 0]) 3 56 Tryz.underlying61 hi hz0 hz1 hz2 rfl (by decide) _ ((k)) xs rfl HW1.out A' (p.length - (k)) _ news rfl HSRC.out (by have:=HS.out.1; unfold maxLen; omega) (by have:=HS.out.1; omega) HSZ1.out ?_; intro v3 w3 hown hg _; have HW3:=hid hown; have HG3:=hid hg; clear hown hg))
     go_ret
     have hx3:=z36 HX1.out HW1.out HG3.out
     refine ⟨_,rfl,z6e (w:=w) hS (ms:=[]) (md:=[]) HXS.out hx3 rfl HCS.out (Kept.grown HG3.out (z81 hS HW1.out HX1.out)) (by simpa using HW3.out) (by rw [HPE.out,z9i HZ.out]),hx3⟩
    ·have CS:=hid (show Calls Tryz.prog 34 #[.agg #[.bool bc,.slice ac nc cc]] wz fun e w' => e = .returned (.int .i64 (z18 (c))) ∧ Ext wz w' from by rw [HBZ.out]; exact z42 (S:=Off S w wz u7) _ (c) wz ⟨_,rfl,HDZ.out⟩)
     have hsn:=zet hz
     have HZ:=hid hz
     clear hz
     go_wp2_with fail
     refine CS.out.mono ?_
     rintro e w1 ⟨rfl,hx1⟩
     have HX1:=hid (HXW.out.trans hx1)
     have HW1:=hid (z0o HW.out hx1)
     have HSZ1:Hid (w.heap.size + 1 ≤ w1.heap.size):=hid (Nat.le_trans HSZ.out hx1.size)
     have HD1:=hid (z80 hS HXW.out HDZ.out hx1)
     have k0:=hx1.cell c0
     have k1:=hx1.cell c1
     clear hx1
     go_wp2_with (first | (refine z1e _ rfl (.tmp 65) (.tmp 66) 61 95 rfl Tryz.underlying61 Tryz.infoT (some ⟨b,off,none⟩) p.length cp (k) rfl rfl HJ.out ?_; intro A' hA'; obtain ⟨news,hsrc,hcs⟩:=z48 (HP.out.ext HX2.out hS) HJ.out hA'; have HSRC:=hid hsrc; have HCS:=hid hcs; clear hA' hsrc hcs) | (first | (at_builtin; refine z1w _ rfl (.tmp 58) (.tmp 62) 61 rfl (w.heap.size + 1) 95 (.agg #[.bool false,.slice none 0 0,.slice none 0 0]) 3 56 Tryz.underlying61 Tryz.infoT rfl (by decide) _ (k) xs rfl HW1.out #[.bool bc,.slice ac nc cc,.slice am m.length cm] rfl (z1x rfl rfl rfl) rfl (by have:=HS.out.1; omega) (by decide) HSZ1.out ?_; intro v2 w2 hown hg hbk; have HW2:=hid hown; have HG2:=hid hg; have HBK:=hid hbk; have HX2:=hid (z36 HX1.out HW1.out hg); have HSZ2:Hid (w.heap.size + 1 ≤ w2.heap.size):=hid (Nat.le_trans HSZ1.out hg.size); clear hown hg hbk) | (at_builtin; refine z0m _ rfl (.tmp 64) (.tmp 67) 61 rfl (w.heap.size + 1) 95 i0 (.agg #[.bool false,.slice none 0 0,.slice none 0 0]) 3 56 Tryz.underlying61 hi hz0 hz1 hz2 rfl (by decide) _ ((k) + 1) (xs ++ (#[.bool bc,.slice ac nc cc,.slice am m.length cm]:Array Value).toList) rfl HW2.out A' (p.length - (k)) _ news rfl HSRC.out (by have:=HS.out.1; unfold maxLen; omega) (by have:=HS.out.1; omega) HSZ2.out ?_; intro v3 w3 hown hg _; have HW3:=hid hown; have HG3:=hid hg; clear hown hg)))
     go_ret
     have hx3:=z36 HX2.out HW2.out HG3.out
     have hmid:z19 (Plus S w w3) w3 [.bool bc,.slice ac nc cc,.slice am m.length cm] [(c,m)]:=by
      have hd:=Digs.to HD1.out (Kept.grown HG2.out (fun j hj => ⟨z2o hS HX1.out j hj.1,hj.2⟩)) (fun _ h => h)
      have hd3:=Digs.to hd (Kept.grown HG3.out (fun j hj => ⟨Nat.lt_of_lt_of_le (z2o hS HX1.out j hj.1) HG2.out.size,z9k hS HX1.out hj HBK.out⟩)) (S':=Plus S w w3) (fun j hj => z4f (Nat.le_trans HG2.out.size HG3.out.size) j hj.1)
      rw [HBZ.out]
      exact z19.single (t:=(c,m)) hd3 (HM.out.to (Kept.ext hx3 hS) (fun _ h => .inl h))
     refine ⟨_,rfl,z6e (w:=w) hS (ms:=[.bool bc,.slice ac nc cc,.slice am m.length cm]) (md:=[(c,m)]) HXS.out hx3 hmid HCS.out (Kept.grown HG3.out (z81 hS HW2.out HX2.out)) HW3.out (by rw [HPE.out,z9j HZ.out]),hx3⟩
  ·obtain rfl:k = p.length:=by omega
   obtain ⟨c0,c1,f0,f1⟩:=HCC.out wr hx
   have HPE:=hid (zrc (c:=c) HPR.out rfl)
   have HJ:Hid (p.length ≤ p.length):=hid (Nat.le_refl _)
   have HXW:=hid (HK.out.trans hx)
   have HSZ:Hid (w.heap.size + 1 ≤ wr.heap.size):=hid (by have:=hx.size; rw [size_alloc] at this; exact this)
   have HDZ:=hid (zki hS HDC.out HXW.out HW.out)
   clear hx
   by_cases hz:c = 0
   ·have CS:=hid (show Calls Tryz.prog 34 #[.agg #[.bool bc,.slice ac nc cc]] wr fun e w' => e = .returned (.int .i64 0) ∧ Ext wr w' from by have h:=z42 (S:=Off S w wr u7) _ (c) wr ⟨_,rfl,HDZ.out⟩; rw [← HBZ.out,show z18 (c) = 0 by rw [hz]; rfl] at h; exact h)
    have HZ:=hid hz
    clear hz
    go_wp2_with fail
    refine CS.out.mono ?_
    rintro e w1 ⟨rfl,hx1⟩
    have HX1:=hid (HXW.out.trans hx1)
    have HW1:=hid (z0o HW.out hx1)
    have HSZ1:Hid (w.heap.size + 1 ≤ w1.heap.size):=hid (Nat.le_trans HSZ.out hx1.size)
    have HD1:=hid (z80 hS HXW.out HDZ.out hx1)
    clear hx1
    go_wp2_with (first | (refine z1e _ rfl (.tmp 65) (.tmp 66) 61 95 rfl Tryz.underlying61 Tryz.infoT ap p.length cp (p.length) rfl rfl HJ.out ?_; intro A' hA'; obtain ⟨news,hsrc,hcs⟩:=z48 (HP.out.ext HX1.out hS) HJ.out hA'; have HSRC:=hid hsrc; have HCS:=hid hcs; clear hA' hsrc hcs) | (at_builtin; refine z0m _ rfl (.tmp 64) (.tmp 67) 61 rfl (w.heap.size + 1) 95 i0 (.agg #[.bool false,.slice none 0 0,.slice none 0 0]) 3 56 Tryz.underlying61 hi hz0 hz1 hz2 rfl (by decide) _ ((p.length)) xs rfl HW1.out A' (p.length - (p.length)) _ news rfl HSRC.out (by have:=HS.out.1; unfold maxLen; omega) (by have:=HS.out.1; omega) HSZ1.out ?_; intro v3 w3 hown hg _; have HW3:=hid hown; have HG3:=hid hg; clear hown hg))
    go_ret
    have hx3:=z36 HX1.out HW1.out HG3.out
    refine ⟨_,rfl,z6e (w:=w) hS (ms:=[]) (md:=[]) HXS.out hx3 rfl HCS.out (Kept.grown HG3.out (z81 hS HW1.out HX1.out)) (by simpa using HW3.out) (by rw [HPE.out,z9i HZ.out]),hx3⟩
   ·have CS:=hid (show Calls Tryz.prog 34 #[.agg #[.bool bc,.slice ac nc cc]] wr fun e w' => e = .returned (.int .i64 (z18 (c))) ∧ Ext wr w' from by rw [HBZ.out]; exact z42 (S:=Off S w wr u7) _ (c) wr ⟨_,rfl,HDZ.out⟩)
    have hsn:=zet hz
    have HZ:=hid hz
    clear hz
    go_wp2_with fail
    refine CS.out.mono ?_
    rintro e w1 ⟨rfl,hx1⟩
    have HX1:=hid (HXW.out.trans hx1)
    have HW1:=hid (z0o HW.out hx1)
    have HSZ1:Hid (w.heap.size + 1 ≤ w1.heap.size):=hid (Nat.le_trans HSZ.out hx1.size)
    have HD1:=hid (z80 hS HXW.out HDZ.out hx1)
    have k0:=hx1.cell c0
    have k1:=hx1.cell c1
    clear hx1
    go_wp2_with (first | (refine z1e _ rfl (.tmp 65) (.tmp 66) 61 95 rfl Tryz.underlying61 Tryz.infoT ap p.length cp (p.length) rfl rfl HJ.out ?_; intro A' hA'; obtain ⟨news,hsrc,hcs⟩:=z48 (HP.out.ext HX2.out hS) HJ.out hA'; have HSRC:=hid hsrc; have HCS:=hid hcs; clear hA' hsrc hcs) | (first | (at_builtin; refine z1w _ rfl (.tmp 58) (.tmp 62) 61 rfl (w.heap.size + 1) 95 (.agg #[.bool false,.slice none 0 0,.slice none 0 0]) 3 56 Tryz.underlying61 Tryz.infoT rfl (by decide) _ (p.length) xs rfl HW1.out #[.bool bc,.slice ac nc cc,.slice am m.length cm] rfl (z1x rfl rfl rfl) rfl (by have:=HS.out.1; omega) (by decide) HSZ1.out ?_; intro v2 w2 hown hg hbk; have HW2:=hid hown; have HG2:=hid hg; have HBK:=hid hbk; have HX2:=hid (z36 HX1.out HW1.out hg); have HSZ2:Hid (w.heap.size + 1 ≤ w2.heap.size):=hid (Nat.le_trans HSZ1.out hg.size); clear hown hg hbk) | (at_builtin; refine z0m _ rfl (.tmp 64) (.tmp 67) 61 rfl (w.heap.size + 1) 95 i0 (.agg #[.bool false,.slice none 0 0,.slice none 0 0]) 3 56 Tryz.underlying61 hi hz0 hz1 hz2 rfl (by decide) _ ((p.length) + 1) (xs ++ (#[.bool bc,.slice ac nc cc,.slice am m.length cm]:Array Value).toList) rfl HW2.out A' (p.length - (p.length)) _ news rfl HSRC.out (by have:=HS.out.1; unfold maxLen; omega) (by have:=HS.out.1; omega) HSZ2.out ?_; intro v3 w3 hown hg _; have HW3:=hid hown; have HG3:=hid hg; clear hown hg)))
    go_ret
    have hx3:=z36 HX2.out HW2.out HG3.out
    have hmid:z19 (Plus S w w3) w3 [.bool bc,.slice ac nc cc,.slice am m.length cm] [(c,m)]:=by
     have hd:=Digs.to HD1.out (Kept.grown HG2.out (fun j hj => ⟨z2o hS HX1.out j hj.1,hj.2⟩)) (fun _ h => h)
     have hd3:=Digs.to hd (Kept.grown HG3.out (fun j hj => ⟨Nat.lt_of_lt_of_le (z2o hS HX1.out j hj.1) HG2.out.size,z9k hS HX1.out hj HBK.out⟩)) (S':=Plus S w w3) (fun j hj => z4f (Nat.le_trans HG2.out.size HG3.out.size) j hj.1)
     rw [HBZ.out]
     exact z19.single (t:=(c,m)) hd3 (HM.out.to (Kept.ext hx3 hS) (fun _ h => .inl h))
    refine ⟨_,rfl,z6e (w:=w) hS (ms:=[.bool bc,.slice ac nc cc,.slice am m.length cm]) (md:=[(c,m)]) HXS.out hx3 hmid HCS.out (Kept.grown HG3.out (z81 hS HW2.out HX2.out)) HW3.out (by rw [HPE.out,z9j HZ.out]),hx3⟩
end
section
open Go.RowKit
theorem Digs.src {S:Nat → Prop} {w:World} {A:Option Addr} {n cap:Nat} {zs:List Nat} (h:Digs S w (.slice A n cap) zs):zbb w A n 1 (zs.map dval):=by
 obtain ⟨b,off,⟨a',cap',h1,h2,h3,h4,h5⟩,hc⟩:=h
 obtain ⟨rfl,rfl,rfl⟩:A = a' ∧ n = zs.length ∧ cap = cap':=by simpa using h1
 refine ⟨by simp,fun u hu => ?_,fun h0 => ⟨_,h4 h0,fun j u hj => ?_⟩⟩
 ·obtain ⟨z,-,rfl⟩:=List.mem_map.1 hu
  rfl
 ·rw [List.getElem?_map] at hj
  cases hz:zs[j]? with
  | none => rw [hz] at hj; cases hj
  | some z =>
   rw [hz] at hj
   obtain rfl:dval z = u:=by simpa using hj
   rw [z6u]
   exact (hc j z hz).2
theorem zre {a b:Nat}:(a < b ∧ cmpN a b = -1) ∨ (b ≤ a ∧ (cmpN a b = 0 ∨ cmpN a b = 1)):=by
 unfold cmpN cmpI
 split
 ·exact .inl ⟨by omega,rfl⟩
 ·split <;> exact .inr ⟨by omega,by first | exact .inl rfl | exact .inr rfl⟩
theorem zga {a m j R:Nat} (h:a = j * m + R) (hR:R < m):j = a / m ∧ R = a % m:=by
 have hm:0 < m:=by omega
 rw [h,Nat.mul_comm,Nat.mul_add_div hm,Nat.div_eq_of_lt hR,Nat.mul_add_mod,Nat.mod_eq_of_lt hR]
 exact ⟨rfl,rfl⟩
theorem zo5 {o:List Nat} {q:Nat} (hq:q < o.length) (h:dg o q = 0):o.set q 0 = o:=by
 refine List.ext_getElem? (fun i => ?_)
 rw [List.getElem?_set]
 split
 ·next e =>
  subst e
  unfold dg at h
  obtain ⟨z,hz⟩:=z00 hq
  rw [hz] at h ⊢
  have e0:z = 0:=h
  rw [e0]
 ·rfl
theorem z3h {a b:Nat} (h:a ≤ b):(rep 10 a).length ≤ (rep 10 b).length:=z0d z05 _ _ (Nat.lt_of_le_of_lt h (z0s z05 b))
theorem zo6 {a b:Nat} (h:a < 10 * b):(rep 10 a).length ≤ (rep 10 b).length + 1:=z0d z05 _ _ (by
 have:=z0s z05 b
 rw [Nat.pow_succ]
 omega)
theorem z9l {w w':World} {g n:Nat} {T:TypeId} {f:Nat → Value} (h:w.rowIs g T n f) (hx:Ext w w'):w'.rowIs g T n f:=by
 obtain ⟨c,h1,h2⟩:=h
 exact ⟨c,(hx.block g (Array.getElem?_eq_some_iff.1 h1).1).trans h1,h2⟩
theorem zar {S:Nat → Prop} (va vb:Value) (zs:List Nat) (m:Nat) (w:World) (ha:Digs S w va zs) (hb:Digs S w vb (rep 10 m)) (hS:∀ k,S k → k < w.heap.size) (hr:zs.length ≤ 10000000) (hr2:(rep 10 m).length ≤ 2000000) (hm:0 < m) :
  Calls Tryz.prog 120 #[va,vb] w fun e w' => ∃ v1 v2,e = .returned (.tuple #[v1,v2]) ∧ Digs (New w w') w' v1 (rep 10 (val 10 zs / m)) ∧ Digs (New w w') w' v2 (rep 10 (val 10 zs % m)) ∧ Ext w w':=by
 have HA:=hid ha
 have HB:=hid hb
 have HLA:=hid ha.lt
 obtain ⟨aa,ca,rfl⟩:=ha.form
 obtain ⟨ab,cb,rfl⟩:=hb.form
 obtain ⟨nb,hnb⟩:∃ n,n = (rep 10 m).length:=⟨_,rfl⟩
 rw [← hnb] at HB ⊢
 have HNB:=hid hnb
 clear ha hb hnb
 obtain ⟨i0,hi,hz0,hz1,hz2⟩:=info_parts Tryz.infoInt
 have hmk:=run_make_row' (P:=Tryz.prog) 54 3 (.int .i64 0) 8 Tryz.underlying54 Tryz.infoInt rfl .i64 .i64 zs.length (by omega) (by omega) w
 obtain ⟨g,hg⟩:∃ g,g = w.heap.size:=⟨_,rfl⟩
 obtain ⟨wa,hwa⟩:∃ Y,Y = w.alloc (.cells (madeCells #[.int .i64 0] zs.length) 3):=⟨_,rfl⟩
 have HR:Hid (wa.rowIs g 3 zs.length (rowD (List.replicate zs.length 0))):=hid (by rw [hg,hwa]; exact z7x w zs.length 3)
 have HE:Hid (Ext w wa):=hid (by rw [hwa]; exact Ext.alloc (Ext.refl w) _)
 have HZ:Hid (g < wa.heap.size):=hid (by rw [hg,hwa,size_alloc]; omega)
 rw [← hg,← hwa] at hmk
 have HG:=hid hg
 clear hg hwa
 go_enter Tryz.func120,Tryz.ntmps120
 go_wp2
 go_loopw [7,8] (fun rr i wr => ∃ (k R:Nat) (o:List Nat),k ≤ zs.length ∧ i = .int .i64 ((k:Int) - 1) ∧ R < m ∧ Hid (o.length = zs.length) ∧ Hid (∀ z ∈ o,z < 10) ∧ Hid (wr.rowIs g 3 zs.length (rowD o)) ∧ Hid (Ext w wr) ∧
  Hid (Digs (fun j => g < j ∧ j < wr.heap.size) wr rr (rep 10 R)) ∧ Hid (∀ j,j < k → dg o j = 0) ∧ Hid (val 10 (zs.drop k) = val 10 (o.drop k) * m + R)) (fun _ i _ => (intOf i + 1).toNat)
 case atStart => exact ⟨zs.length,0,List.replicate zs.length 0,Nat.le_refl _,rfl,hm,hid (by simp),hid (by simp),HR,HE,hid (Digs.nilv _ _ _ _ (by omega)),hid (fun j hj => by simp [dg,hj]),hid (by rw [List.drop_length,List.drop_eq_nil_of_le (by simp)]; simp [val])⟩
 case round =>
  obtain ⟨k,R,o,hk,rfl,hRm,HOL,HO,HROW,HX,HRD,HZR,HV⟩:=hrel
  cases k with
  | succ q =>
   have hq1:((q + 1:Nat):Int) - 1 = (q:Int):=by omega
   have hqn:q < zs.length:=by omega
   obtain ⟨x,hx1⟩:=z00 hqn
   obtain ⟨b,off,rfl,-,hn1,hm1,hSb,hxb,hc1⟩:=HA.out.cellAt hx1
   have g1:=HX.out.cell hc1
   have HX1:=hid hx1
   obtain ⟨ar,cr,rfl⟩:=HRD.out.form
   obtain ⟨nr,hnr⟩:∃ n,n = (rep 10 R).length:=⟨_,rfl⟩
   rw [← hnr] at HRD ⊢
   have HNR:=hid hnr
   have hnrb:nr ≤ 2000000:=by
    have h1:=z3h (Nat.le_of_lt hRm)
    rw [hnr]; omega
   have HXL:=hid (hxb:x < 10)
   have HSRC:=hid ((HRD.out.to (S':=fun _ => True) (Kept.ext (Ext.alloc (Ext.refl wr) (.cells #[.int .i64 (x:Nat)] 3)) (fun _ h => h.2)) (fun _ _ => trivial)).src)
   have HLIT:=hid (World.ownsRow_lit (size:=1) (e:=3) wr #[.int .i64 (x:Nat)] 1 (Nat.le_refl _) (by decide) rfl)
   have HXA:=hid (show Ext wr (wr.alloc (.cells #[.int .i64 (x:Nat)] 3)) from Ext.alloc (Ext.refl wr) _)
   clear hx1 hc1 hnr hxb
   simp only [hq1]
   go_wp2_with (at_builtin; refine z0m _ rfl (.tmp 23) (.tmp 24) 54 rfl wr.heap.size 3 i0 (.int .i64 0) 1 8 Tryz.underlying54 hi hz0 hz1 hz2 rfl (by decide) (.slice (some ⟨wr.heap.size,0,none⟩) 1 1) 1 [.int .i64 (x:Nat)] rfl HLIT.out ar nr cr ((rep 10 R).map dval) rfl HSRC.out (by unfold maxLen; omega) (by omega) HXA.out.size ?_; intro v1 w1 hown hgr _; have HOW:=hid hown; have HXG:=hid (z0j HXA.out hgr (fun k hk => (HLIT.out.lt k hk).1)); clear hown hgr)
   have HD1:Hid (Digs (fun k => wr.heap.size ≤ k ∧ k < w1.heap.size) w1 v1 (x :: rep 10 R)):=hid (z79 (ds:=x :: rep 10 R) (by rw [List.length_cons,← HNR.out,Nat.add_comm]; exact HOW.out) (fun z hz => by
    rcases List.mem_cons.1 hz with rfl | h
    ·exact HXL.out
    ·exact z32 z05 R z h))
   have CT:=hid (z58 v1 (x :: rep 10 R) w1 HD1.out)
   rw [show val 10 (x :: rep 10 R) = x + 10 * R from by rw [val,z0c z05]] at CT
   obtain ⟨a1,c1,e1⟩:=HD1.out.form
   rw [List.length_cons,← HNR.out] at e1
   subst e1
   go_wp2_with fail
   with_reducible refine CT.out.mono ?_
   rintro e w2 ⟨v2,rfl,hu,rfl⟩
   have HG1:Hid (g < wr.heap.size):=hid (HROW.out.lt)
   have HR1:Hid (w1.rowIs g 3 zs.length (rowD o)):=hid (z9l HROW.out HXG.out)
   have HI0:Hid (Digs (fun k => g < k ∧ k < w1.heap.size) w1 v2 (rep 10 (x + 10 * R))):=hid (hu.to (Kept.refl _ _) (fun k hk => ⟨Nat.lt_of_lt_of_le HG1.out hk.1,hk.2⟩))
   have HXW:Hid (Ext w w1):=hid (HX.out.trans HXG.out)
   clear hu
   obtain ⟨wo,rfl⟩:∃ wo:World,wo = wr:=⟨_,rfl⟩
   go_wp2
   go_loopw [7] (fun rr wy => ∃ (j R':Nat),x + 10 * R = j * m + R' ∧ Hid (Digs (fun k => g < k ∧ k < wy.heap.size) wy rr (rep 10 R')) ∧ Hid (wy.rowIs g 3 zs.length (rowD (o.set q j))) ∧ Hid (Ext w wy)) (fun _ wy => 9 - (intOf ((wy.cell? ⟨g,q,none⟩).getD (.int .i64 0))).toNat)
   case atStart => exact ⟨0,x + 10 * R,by omega,HI0,by rw [zo5 (by rw [HOL.out]; exact hqn) (HZR.out q (by omega))]; exact HR1,HXW⟩
   case round =>
    obtain ⟨j,R',hjR,HRR,HRO,HXY⟩:=hrel
    obtain ⟨ay,cy,rfl⟩:=HRR.out.form
    obtain ⟨ny,hny⟩:∃ n,n = (rep 10 R').length:=⟨_,rfl⟩
    rw [← hny] at HRR
    rw [← hny]
    have HNY:=hid hny
    have HBY:=hid (HB.out.to (S':=Old wr) (Kept.ext HXY.out hS) (fun k hk => Nat.lt_of_lt_of_le (hS k hk) HXY.out.size))
    have hxR:x + 10 * R < 10 * m:=by have:=HXL.out; omega
    have HJR:=hid hjR
    have CC:=zej (S:=Old wr) _ _ R' m wr (HRR.out.to (Kept.refl _ _) (fun k h => h.2)) HBY.out (fun _ h => h)
    rcases zre (a:=R') (b:=m) with ⟨hlt,hc⟩ | ⟨hge,hc⟩
    ·rw [hc] at CC
     have CC:=hid CC
     clear hc hny
     go_wp2_with fail
     with_reducible refine CC.out.mono ?_
     rintro e w3 ⟨rfl,hx3⟩
     have HX3:=hid hx3
     clear hx3
     go_wp2
     go_roundw
     case rel =>
      obtain ⟨ej,eR⟩:=zga HJR.out hlt
      refine ⟨q,R',o.set q j,by omega,rfl,hlt,hid (by simpa using HOL.out),hid (fun z hz => ?_),hid (z9l HRO.out HX3.out),hid (HXY.out.trans HX3.out),hid (HRR.out.to (Kept.ext HX3.out (fun k h => h.2)) (fun k h => ⟨h.1,Nat.lt_of_lt_of_le h.2 HX3.out.size⟩)),hid (fun i hi => ?_),hid ?_⟩
      ·rcases List.mem_or_eq_of_mem_set hz with h | h
       ·exact HO.out z h
       ·rw [h]
        have h1:j * m < 10 * m:=by omega
        exact Nat.lt_of_mul_lt_mul_right h1
      ·rw [z9f (by omega)]
       exact HZR.out i (by omega)
      ·have h1:=zjy HX1.out (by rw [HOL.out]; exact hqn) HV.out
       rw [show R * 10 + x = x + 10 * R by omega,← ej,← eR] at h1
       exact h1
     case measure => simp only [intOf]; omega
    ·obtain ⟨c,hc1,hc2⟩:∃ c,cmpN R' m = c ∧ decide (0 ≤ c) = true:=by
      rcases hc with h | h
      ·exact ⟨0,h,rfl⟩
      ·exact ⟨1,h,rfl⟩
     rw [hc1] at CC
     have CC:=hid CC
     have HGE:=hid hge
     have CS:=hid (fun (Y:World) (hY:Ext wr Y) => zek (S:=Old Y) (.slice ay ny cy) (.slice ab nb cb) (rep 10 R') (rep 10 m) Y (HRR.out.to (Kept.ext hY (fun k h => h.2)) (fun k h => Nat.lt_of_lt_of_le h.2 hY.size)) (HBY.out.to (Kept.ext hY (fun _ h => h)) (fun k h => Nat.lt_of_lt_of_le h hY.size)) (fun _ h => h) (by have:=zo6 (a:=R') (b:=m) (by omega); omega) (z3h hge) (by rw [z0c z05,z0c z05]; exact hge))
     simp only [z0c z05] at CS
     have hjm:(j + 1) * m < 10 * m:=by
      rw [Nat.succ_mul]
      omega
     have hj9:j ≤ 8:=by have:=Nat.lt_of_mul_lt_mul_right hjm; omega
     clear hc hc1 hny hjm
     go_wp2_with fail
     with_reducible refine CC.out.mono ?_
     rintro e w3 ⟨rfl,hx3⟩
     have HX3:=hid hx3
     clear hx3
     go_wp2_with fail
     with_reducible refine (CS.out w3 HX3.out).mono ?_
     rintro e w4 ⟨v4,rfl,hd4,hx4⟩
     have HX4:=hid (HX3.out.trans hx4)
     have HD4:=hid (show Digs (fun k => g < k ∧ k < w4.heap.size) w4 v4 (rep 10 (R' - m)) from hd4.to (Kept.refl _ _) (fun k hk => ⟨Nat.lt_of_lt_of_le (Nat.lt_of_lt_of_le HRO.out.lt HX3.out.size) hk.1,hk.2⟩))
     have HR4:=hid (z9l HRO.out HX4.out)
     have hcs:=HR4.out.cell (i:=q) hqn
     have hfs:=HR4.out.frozen q
     have hcy:=HRO.out.cell (i:=q) hqn
     have hdg:dg (o.set q j) q = j:=by
      unfold dg
      rw [List.getElem?_set_self (by rw [HOL.out]; exact hqn)]
      rfl
     unfold rowD dval at hcs hcy
     rw [hdg] at hcs hcy
     have HCY:=hid hcy
     clear hd4 hx4 hcy hdg
     go_wp2
     have hpl:q < (o.set q j).length:=by simpa [HOL.out] using hqn
     have hst:=z8w HR4.out q (j + 1) hpl
     rw [List.set_set] at hst
     have HST:=hid hst
     clear hst
     go_roundw
     case rel =>
      refine ⟨j + 1,R' - m,by rw [Nat.add_mul j 1 m,Nat.one_mul]; have:=HJR.out; have:=HGE.out; omega,hid (HD4.out.to (Kept.setCell (fun h => absurd h.1 (Nat.lt_irrefl _)) _) (fun k h => ⟨h.1,by simpa using h.2⟩)),?_,hid ((HXY.out.trans HX4.out).setCell (p:=⟨g,q,none⟩) (by show w.heap.size ≤ g; rw [HG.out]; exact Nat.le_refl _) _)⟩
      exact HST
     case measure =>
      rw [HCY.out,z1c (HR4.out.cell (i:=q) hqn)]
      simp only [Option.getD_some,intOf]
      omega
  | zero =>
   have hd:=Digs.of_row HROW.out HOL.out HO.out (by omega)
   have HD:=hid hd
   obtain ⟨ar,cr,rfl⟩:=HRD.out.form
   have HV0:Hid (val 10 zs = val 10 o * m + R):=hid (by simpa using HV.out)
   clear hd
   go_wp2_with fail
   refine (z58 _ o _ HD.out).mono ?_
   rintro e w' ⟨v',rfl,hu,rfl⟩
   have HU:=hid hu
   clear hu
   go_wp2
   all_goals
    go_ret2
    obtain ⟨e1,e2⟩:=zga HV0.out hRm
    refine ⟨_,_,rfl,?_,?_,HX.out⟩
    ·rw [← e1]
     refine HU.out.to (Kept.refl _ _) (fun k hk => ?_)
     subst hk
     exact ⟨by rw [HG.out]; exact Nat.le_refl _,HROW.out.lt⟩
    ·rw [← e2]
     exact HRD.out.to (Kept.refl _ _) (fun k hk => ⟨by have:=HG.out; omega,hk.2⟩)
end
end Go.Proofs.YtbfflodidkfphaaGreat
