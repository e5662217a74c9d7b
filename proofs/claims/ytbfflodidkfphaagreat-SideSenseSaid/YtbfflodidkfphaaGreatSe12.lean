/- A range over a function that hands over rows in memory of its own: the caller's law. All rows of so many names, told one behind the other by a function that keeps its place in memory of its own. The names of a polynomial's points; whether two conditions are the same. Rows of names; whether two conditions are the same. The content of a polynomial: a range over a function. A polynomial made whole: over its content, with a lead above 0. -/
import Derived.RangeFuncNested
import Derived.RangeFuncBound
import Derived.RangeFuncCalls
import Derived.RangeFuncLeaves
import Derived.Shelf.Abstract
import Derived.Shelf.RegionOpen
import Derived.OwnWalkIn
import Derived.TacticsInMore
import Derived.LoopNIn
import Derived.LoopIn
import Derived.Deep.OwnRows
import Derived.Test.YtbfflodidkfphaaGreatSe11
set_option maxRecDepth 100000
set_option maxHeartbeats 16000000
namespace Go.Proofs.YtbfflodidkfphaaGreat
section
open Go.RowKit Go.Shelf
def KpL (l:Nat) (A B:World):Prop:=A.heap.size ≤ B.heap.size ∧ ∀ k,k < A.heap.size → k ≠ l → B.heap[k]? = A.heap[k]?
theorem KpL.trans {l:Nat} {A B C:World} (h:KpL l A B) (k:KpL l B C):KpL l A C:=⟨Nat.le_trans h.1 k.1,fun i hi hl => (k.2 i (Nat.lt_of_lt_of_le hi h.1) hl).trans (h.2 i hi hl)⟩
theorem KpL.of_ext {A B:World} (h:Ext A B) (l:Nat):KpL l A B:=⟨h.size,fun k hk _ => h.block k hk⟩
theorem KpL.put (W:World) (l:Nat) (o:Obj):KpL l W (W.putObj l o):=⟨(grownBy_putObj' W l o).size,fun k _ hl => World.putObj_heap_other hl⟩
theorem z5z {B l:Nat} {W:World} {o:Obj} (hB:B ≤ l) (hl:W.heap[l]? = some o) (o':Obj):Below B W (W.putObj l o') :=
 (Below.refl B W).grown (grownBy_putObj' W l o') (by have:=(Array.getElem?_eq_some_iff.1 hl).1; omega) (fun k e => by cases e; exact hB)
def zmu (F:Fence) (n:Nat) (P:Program) (g:Nat) (lb:Array Value) (N:Nat) (Rx:Nat → Value → World → Prop) (w0:World):Prop :=
 ∀ (l:Nat) (J Jx:Nat → World → Prop) (W:World),Ext w0 W → w0.heap.size ≤ l → l < W.heap.size → (∀ k A B,J k A → Below W.heap.size A B → J k B) →
  (∀ k v W1,k < N → J k W1 → Rx k v W1 → YieldAt F (n - 1) P l #[v] W1 fun e W' =>
   (e = .returned (.bool true) ∧ J (k + 1) W' ∧ KpL l W1 W') ∨ (e = .returned (.bool false) ∧ Jx k W')) →
  J 0 W →
  CallsIn F n P g (#[.func (.yield l) #[] #[]] ++ lb) W fun e W' => (∃ v,e = .returned v) ∧ (J N W' ∨ ∃ k,k < N ∧ Jx k W')
def zsb (B:Nat) (I:Nat → World → Prop) (Ix:Nat → World → Prop) (c:Code) (k:Nat) (W:World):Exit → Act → World → Prop
 | .normal,_,W' => Ext W W' ∧ I (k + 1) W'
 | .exit id,_,W' => c = .exit id ∧ KeepsFrom B W W' ∧ Ix k W'
 | _,_,_ => False
variable {F:Fence} {n:Nat} {P:Program} {w:World}
theorem z7p {g:Operand} {p:Tmp} {assign body:Code} {Q:Exit → Act → World → Prop} {a:Act}
  (hro:F.round = none) (h1:1 ≤ n) {gf:Nat} {lb:Array Value} (hg:a.eval g = .func (.func gf) #[] lb) (hFg:F.fn gf) (eg:∀ args w,(callFunc gf args).run P w = .ok (.enter gf args) w)
  {N:Nat} {Rx:Nat → Value → World → Prop} (hseq:zmu F (n - 1) P gf lb N Rx w)
  (hRx:∀ k v A l r o,Rx k v A → A.heap[l]? = some (.loop r) → Rx k v (A.putObj l o))
  (I:Nat → World → Prop) (Ix:Nat → World → Prop) (c:Code) (hI:∀ k A B,I k A → Below w.heap.size A B → I k B) (hIx:∀ k A l r o,Ix k A → w.heap.size ≤ l → A.heap[l]? = some (.loop r) → Ix k (A.putObj l o)) (h0:I 0 w)
  (a₁:Value → Act)
  (hassign:∀ (l:Nat) (v:Value) (W:World) (K:Act → World → Prop),K (a₁ v) W →
   assign.wpIn (F.inRound l) (n - 1 - 1) P (Exit.then K (fun _ _ _ => False)) { tmps:=(#[p].zip #[v]).foldl (fun t (p,v) => t.setIfInBounds p v) a.tmps,defers:=[] } W)
  (hbody:∀ (l k:Nat) (v:Value) (W:World),k < N → I k W → Rx k v W → body.wpIn (F.inRound l) (n - 1 - 1) P (zsb w.heap.size I Ix c k W) (a₁ v) W)
  (hdone:∀ (D:Nat) (W:World),w.heap.size ≤ D → I N W → W.heap[D]? = some (.deferred (some [])) → Q .normal { a with defers:={ target:=.collected D,args:=#[] } :: a.defers } W)
  (hstop:∀ (D k:Nat) (W:World),w.heap.size ≤ D → k < N → Ix k W → W.heap[D]? = some (.deferred (some [])) → c.wpIn F n P Q { a with defers:={ target:=.collected D,args:=#[] } :: a.defers } W) :
  (Code.rangeFunc g #[p] assign body).wpIn F n P Q a w:=by
 refine wpIn_rangeFunc ?_
 intro fn hfn
 rw [hro]
 obtain ⟨L,hL⟩:∃ L:LoopState → Option Code → Loop,L = fun st pe => { state:=st,pending:=pe,fn,tmps:=a.tmps,params:=#[p],assign,body,defers:=w.heap.size }:=⟨_,rfl⟩
 obtain ⟨W1,hW1⟩:∃ W1,W1 = (w.alloc (.deferred (some []))).alloc (.loop (L .ready none)):=⟨_,rfl⟩
 have hsz:W1.heap.size = w.heap.size + 2:=by rw [hW1]; simp
 have hx1:Ext w W1:=by rw [hW1]; exact (Ext.alloc (Ext.refl w) _).alloc _
 have hl1:W1.heap[w.heap.size + 1]? = some (.loop (L .ready none)):=by
  have:=World.alloc_heap_new (w.alloc (.deferred (some []))) (.loop (L .ready none))
  rw [World.size_alloc] at this
  rw [hW1]; exact this
 have hk1:W1.heap[w.heap.size]? = some (.deferred (some [])):=by
  rw [hW1]; exact (Below.heap_alloc _ _ _ (by simp)).trans (World.alloc_heap_new w _)
 refine ⟨w.heap.size + 1,[{ target:=.collected w.heap.size,args:=#[] }],W1,{ target:=.fn (.func gf) lb,args:=#[.func (.yield (w.heap.size + 1)) #[] #[]] },W1,gf,
  #[.func (.yield (w.heap.size + 1)) #[] #[]] ++ lb,W1,by rw [hW1,hL]; exact run_enterLoop_outer _ _ _ _ _,by simp only [resolve,hg]; simp [go_sem],fun f' hf' => by simp [Target.leads] at hf'; subst hf'; exact hFg,by simp [invoke,go_sem,eg],fun _ => h1,?_⟩
 refine (hseq (w.heap.size + 1)
  (fun k W => I k W ∧ W.heap[w.heap.size + 1]? = some (.loop (L .ready none)) ∧ W.heap[w.heap.size]? = some (.deferred (some [])))
  (fun k W => Ix k W ∧ W.heap[w.heap.size + 1]? = some (.loop (L .done (some c))) ∧ W.heap[w.heap.size]? = some (.deferred (some [])))
  W1 hx1 (by omega) (by omega)
  (fun k A B h hb => ⟨hI k A B h.1 (hb.mono (by omega)),(hb.block _ (by omega)).trans h.2.1,(hb.block _ (by omega)).trans h.2.2⟩) ?_
  ⟨hI _ _ _ h0 hx1,hl1,hk1⟩).mono ?_
 ·rintro k v W hk ⟨hi,hl,hd⟩ hrx
  have hy:=run_yield (P:=P) (args:=#[v]) hl (by rw [hL]; rfl)
  have hlw:=(Array.getElem?_eq_some_iff.1 hl).1
  refine ⟨_,_,_,_,hy,roundIn_of_wpIn (by rw [hL]; exact hfn) ?_⟩
  rw [hL]
  dsimp only
  refine hassign (w.heap.size + 1) v W _ ?_
  refine ⟨_,run_beginRound hl (by rw [hL]),?_⟩
  rw [hL]
  obtain ⟨W2,hW2⟩:∃ W2,W2 = W.putObj (w.heap.size + 1) (.loop { (L .ready none) with state:=.busy }):=⟨_,rfl⟩
  have hb2:Below w.heap.size W W2:=by rw [hW2]; exact z5z (by omega) hl _
  have hl2:W2.heap[w.heap.size + 1]? = some (.loop { (L .ready none) with state:=.busy }):=by rw [hW2]; exact World.putObj_heap_same hlw
  have hd2:W2.heap[w.heap.size]? = some (.deferred (some [])):=by rw [hW2]; exact (World.putObj_heap_other (by omega)).trans hd
  have hrx2:Rx k v W2:=by rw [hW2]; exact hRx _ _ _ _ _ _ hrx hl
  have hkp2:KpL (w.heap.size + 1) W W2:=by rw [hW2]; exact KpL.put _ _ _
  have hB:=hbody (w.heap.size + 1) k v W2 hk (hI _ _ _ hi hb2) hrx2
  rw [hW2,hL] at hB
  refine wpIn_mono hB ?_
  rw [hL] at hW2 hl2
  rw [← hW2]
  rintro e a3 W3 hp
  cases e with
  | normal =>
   obtain ⟨hx3,hi3⟩:=hp
   have hl3:W3.heap[w.heap.size + 1]? = _:=(hx3.block _ (Array.getElem?_eq_some_iff.1 hl2).1).trans hl2
   have hd3:W3.heap[w.heap.size]? = _:=(hx3.block _ (Array.getElem?_eq_some_iff.1 hd2).1).trans hd2
   refine ⟨_,_,run_endRound none hl3,.inl ⟨rfl,⟨hI _ _ _ hi3 (z5z (by omega) hl3 _),World.putObj_heap_same (Array.getElem?_eq_some_iff.1 hl3).1,(World.putObj_heap_other (by omega)).trans hd3⟩,(hkp2.trans (KpL.of_ext hx3 _)).trans (KpL.put _ _ _)⟩⟩
  | exit id =>
   obtain ⟨hc,hk3,hi3⟩:=hp
   have hl3:=hk3.same _ _ (by omega) hl2 rfl
   have hd3:=hk3.same _ _ (Nat.le_refl _) hd2 rfl
   refine ⟨_,_,run_endRound (some (.exit id)) hl3,.inr ⟨rfl,hIx _ _ _ _ _ hi3 (by omega) hl3,?_,(World.putObj_heap_other (by omega)).trans hd3⟩⟩
   rw [hc]
   exact World.putObj_heap_same (Array.getElem?_eq_some_iff.1 hl3).1
  | ret => exact hp.elim
  | goto t => exact hp.elim
  | panic ch => exact hp.elim
  | outgrown => exact hp.elim
 ·rintro e W2 ⟨⟨v,rfl⟩,(⟨hi,hl,hd⟩ | ⟨k,hk,hi,hl,hd⟩)⟩
  ·have he:=run_endLoop (P:=P) hl (by rw [hL]; simp)
   refine ⟨none,_,by rw [he,hL],hdone _ _ (Nat.le_refl _) (hI _ _ _ hi (z5z (by omega) hl _)) ((World.putObj_heap_other (by omega)).trans hd)⟩
  ·have he:=run_endLoop (P:=P) hl (by rw [hL]; simp)
   refine ⟨some c,_,by rw [he,hL],hstop _ k _ (Nat.le_refl _) hk (hIx _ _ _ _ _ hi (by omega) hl) ((World.putObj_heap_other (by omega)).trans hd)⟩
end
section
open Go.RowKit Go.Shelf
def dgt (L m k j:Nat):Nat:=k / L ^ (m - 1 - j) % L
def rowK (names:List ByteArray) (m k:Nat):List ByteArray:=(List.range m).map fun j => names.getD (dgt names.length m k j) ByteArray.empty
theorem z3a (names:List ByteArray) (m k:Nat):(rowK names m k).length = m:=by simp [rowK]
theorem zqp {L m k j:Nat} (h:0 < L):dgt L m k j < L:=Nat.mod_lt _ h
theorem zps {L k t:Nat} (h0:0 < L) (h:k % L ^ t + 1 = L ^ t) (hd:k / L ^ t % L = L - 1):k % L ^ (t + 1) + 1 = L ^ (t + 1):=by
 rw [Nat.pow_succ,Nat.mod_mul,hd]
 obtain ⟨M,rfl⟩:∃ M,L = M + 1:=⟨L - 1,by omega⟩
 rw [Nat.add_sub_cancel,Nat.mul_succ]
 omega
theorem zpt {L k t:Nat} (h:k % L ^ t + 1 = L ^ t):k + 1 = L ^ t * (k / L ^ t + 1):=by
 have:=Nat.div_add_mod k (L ^ t)
 rw [Nat.mul_succ]
 omega
theorem zsc {L m k:Nat} (hk:k < L ^ m) (h:k % L ^ m + 1 = L ^ m):k + 1 = L ^ m:=by
 rw [Nat.mod_eq_of_lt hk] at h
 exact h
theorem zsd {L m k t j:Nat} (h0:0 < L) (h:k % L ^ t + 1 = L ^ t) (hj:j < m) (hjt:m ≤ j + t):dgt L m (k + 1) j = 0:=by
 unfold dgt
 obtain ⟨z,hz⟩:L ^ (m - 1 - j + 1) ∣ k + 1:=Nat.dvd_trans (Nat.pow_dvd_pow L (by omega)) ⟨_,zpt h⟩
 rw [hz,Nat.pow_succ,Nat.mul_assoc,Nat.mul_div_cancel_left _ (Nat.pow_pos h0),Nat.mul_mod_right]
theorem zse {L m k t j:Nat} (h0:0 < L) (h:k % L ^ t + 1 = L ^ t) (hj:j + t + 1 = m) (hd:dgt L m k j ≠ L - 1):dgt L m (k + 1) j = dgt L m k j + 1:=by
 unfold dgt at hd ⊢
 rw [show m - 1 - j = t by omega] at hd ⊢
 rw [zpt h,Nat.mul_div_cancel_left _ (Nat.pow_pos h0),Nat.add_mod]
 have:=Nat.mod_lt (k / L ^ t) h0
 rw [Nat.mod_eq_of_lt (a:=1) (by omega),Nat.mod_eq_of_lt (by omega)]
theorem zsf {L m k t j:Nat} (h0:0 < L) (h:k % L ^ t + 1 = L ^ t) (hj:j + t + 1 < m) (hd:dgt L m k (m - 1 - t) ≠ L - 1):dgt L m (k + 1) j = dgt L m k j:=by
 unfold dgt at hd ⊢
 rw [show m - 1 - (m - 1 - t) = t by omega] at hd
 obtain ⟨s,hs⟩:∃ s,m - 1 - j = t + (1 + s):=⟨m - 1 - j - t - 1,by omega⟩
 rw [hs,Nat.pow_add,← Nat.div_div_eq_div_mul,← Nat.div_div_eq_div_mul,zpt h,Nat.mul_div_cancel_left _ (Nat.pow_pos h0),Nat.pow_add,← Nat.div_div_eq_div_mul,← Nat.div_div_eq_div_mul,Nat.pow_one]
 have e:(k / L ^ t + 1) / L = k / L ^ t / L:=by
  have h1:=Nat.div_add_mod (k / L ^ t) L
  have h2:=Nat.mod_lt (k / L ^ t) h0
  refine Nat.div_eq_of_lt_le ?_ ?_
  ·rw [Nat.mul_comm]; omega
  ·rw [Nat.succ_mul,Nat.mul_comm]; omega
 rw [e]
theorem zsg {L m k q:Nat} (h0:0 < L) (hk:k < L ^ m) (h:k % L ^ q + 1 = L ^ q) (hq:q < m) (hd:dgt L m k (m - 1 - q) ≠ L - 1):k + 1 < L ^ m:=by
 refine Nat.lt_of_le_of_ne hk (fun e => hd ?_)
 unfold dgt
 rw [show m - 1 - (m - 1 - q) = q by omega]
 have h1:L ^ q * L ∣ L ^ q * (k / L ^ q + 1):=by
  rw [← zpt h,e,← Nat.pow_succ]
  exact Nat.pow_dvd_pow L hq
 have h2:=Nat.mod_eq_zero_of_dvd (Nat.dvd_of_mul_dvd_mul_left (Nat.pow_pos h0) h1)
 have h3:=Nat.mod_lt (k / L ^ q) h0
 have h4:=Nat.div_add_mod (k / L ^ q) L
 by_cases h5:k / L ^ q % L + 1 < L
 ·rw [← h4,Nat.add_assoc,Nat.mul_add_mod,Nat.mod_eq_of_lt h5] at h2
  omega
 ·omega
theorem z71 (B:Nat) (w:World) (n:Nat):Below B w (w.drewN n):=⟨rfl,rfl,rfl,Nat.le_refl _,fun _ _ => rfl⟩
def ztu (W:World) (b j:Nat):Nat:=match W.cell? ⟨b,j,none⟩ with
 | some (.int _ x) => x.toNat
 | _ => 0
def rd (W:World) (b L:Nat):Nat → Nat
 | 0 => 0
 | t + 1 => rd W b L t * L + ztu W b t
def atF (L m k:Nat):Nat → Value:=fun j => .int .i64 ((dgt L m k j:Nat):Int)
theorem ztv {W:World} {b L m k:Nat} {T:TypeId} (hk:k < L ^ m) (h:W.rowIs b T m (atF L m k)):rd W b L m = k:=by
 have key:∀ t,t ≤ m → rd W b L t = k / L ^ (m - t):=by
  intro t
  induction t with
  | zero => intro _; rw [Nat.sub_zero,Nat.div_eq_of_lt hk]; rfl
  | succ t ih =>
   intro ht
   unfold rd ztu
   rw [ih (by omega),h.cell (i:=t) (by omega)]
   unfold atF dgt
   simp only [Int.toNat_natCast]
   rw [show m - t = (m - (t + 1)) + 1 by omega,Nat.pow_succ,← Nat.div_div_eq_div_mul,show m - 1 - t = m - (t + 1) by omega,Nat.mul_comm]
   exact Nat.div_add_mod _ _
 have:=key m (Nat.le_refl _)
 rwa [Nat.sub_self,Nat.pow_zero,Nat.div_one] at this
def zF (L m k q:Nat):Nat → Value:=fun j => if m ≤ j + q then .int .i64 0 else atF L m k j
def strF (r:List ByteArray) (i:Nat):Nat → Value:=fun j => if j < i then .string (r.getD j ByteArray.empty) else .string ByteArray.empty
theorem Strs.of_row {W:World} {T:TypeId} {g m:Nat} {r:List ByteArray} {S:Nat → Prop} (h:W.rowIs g T m (strF r m)) (hn:r.length = m) (hm:m ≤ maxLen) (hS:S g):Strs S W (.slice (some ⟨g,0,none⟩) m m) r:=by
 refine ⟨g,0,⟨_,m,by rw [hn],by omega,hm,fun _ => rfl,fun _ => hS⟩,fun j x hj => ?_⟩
 have hl:=z03 hj
 rw [Nat.zero_add,h.cell (i:=j) (by omega)]
 unfold strF
 rw [if_pos (by omega),List.getD_eq_getElem?_getD,hj]
 rfl
theorem Tryz.infoStr:(Tryz.prog.info? 9).map (fun i => (i.zero,i.size,i.bytes)) = some (some (.string ByteArray.empty),1,16):=by kernel_rfl
theorem Tryz.infoI64r:(Tryz.prog.info? 3).map (fun i => (i.zero,i.size,i.bytes)) = some (some (.int .i64 0),1,8):=by kernel_rfl
def RwS (w0:World) (ba:Nat) (wr:World):Prop:=Kept (Old w0) w0 wr ∧ ba < wr.heap.size
def RxK (w0:World) (names:List ByteArray) (m k:Nat) (v:Value) (W:World):Prop:=Strs (New w0 W) W v (rowK names m k)
theorem z7q (n:Nat) (hn1:1 ≤ n) {w0:World} {bm bn:Nat} {vn:Value} {names:List ByteArray} {m:Nat} (hm1:1 ≤ m) (hm2:m ≤ 10) (hL:1 ≤ names.length) (hL2:names.length ≤ 100)
  (hnm:Strs (Old w0) w0 vn names) (hcm:w0.cell? ⟨bm,0,none⟩ = some (.int .i64 (m:Int))) (hcn:w0.cell? ⟨bn,0,none⟩ = some vn) :
  zmu Fence.wide n Tryz.prog 107 #[.pointer (some ⟨bm,0,none⟩),.pointer (some ⟨bn,0,none⟩)] (names.length ^ m) (RxK w0 names m) w0:=by
 intro l J Jx W hx hl0 hl1 hJ hY h0
 have HN:=hid hnm
 have HX:=hid hx
 have HY:=hid hY
 have HJ:=hid hJ
 have HL0:=hid hl0
 have HL1:=hid hl1
 obtain ⟨an,cn,rfl⟩:=hnm.form
 obtain ⟨L,hLL⟩:∃ L,L = names.length:=⟨_,rfl⟩
 rw [← hLL] at hL hL2 HN hcn HY ⊢
 have HLL:=hid hLL
 have HCM:=hid hcm
 have HCN:=hid hcn
 have hcm':=hx.cell hcm
 have hmkA:=fun (Y:World) => run_make_row' (P:=Tryz.prog) 53 3 (.int .i64 0) 8 Tryz.underlying53 Tryz.infoI64r rfl .i64 .i64 m (by omega) (by omega) Y
 have hmkS:=fun (Y:World) => run_make_row' (P:=Tryz.prog) 32 9 (.string ByteArray.empty) 16 Tryz.underlying32 Tryz.infoStr rfl .i64 .i64 m (by omega) (by omega) Y
 clear hnm hx hY hJ hl0 hl1 hLL hcm hcn
 refine callsIn_of_wp Tryz.func107 rfl trivial ?_ rfl
 simp only [Tryz.ntmps107,List.size_toArray,List.length_cons,List.length_nil,Nat.reduceAdd,Nat.reduceSub,Array.replicate_succ,Array.replicate_zero,List.push_toArray,List.append_toArray,List.nil_append,List.cons_append]
 gi_wp2
 obtain ⟨ba,hba⟩:∃ b,b = W.heap.size:=⟨_,rfl⟩
 have HBA:=hid hba
 have hj0:=HJ.out 0 W (W.alloc (.cells (madeCells #[.int .i64 0] m) 3)) h0 ((Below.refl _ W).alloc (Nat.le_refl _) _)
 have hr0:(W.alloc (.cells (madeCells #[.int .i64 0] m) 3)).rowIs W.heap.size 3 m (atF L m 0):=(World.rowIs_made W (.int .i64 0) m 3).congr (fun i hi => by unfold atF dgt; simp)
 have hs0:RwS w0 ba (W.alloc (.cells (madeCells #[.int .i64 0] m) 3)):=⟨(Kept.ext HX.out (fun _ h => h)).trans (Kept.alloc (fun k h => Nat.lt_of_lt_of_le h HX.out.size) _),by rw [hba,size_alloc]; omega⟩
 rw [← hba] at hr0 ⊢
 gi_loopw [] (fun wr => ∃ k:Nat,Hid (k < L ^ m) ∧ J k wr ∧ Hid (wr.rowIs ba 3 m (atF L m k)) ∧ Hid (RwS w0 ba wr)) (fun wr => L ^ m - rd wr ba L m)
 case atStart => exact ⟨0,hid (Nat.pow_pos hL),hj0,hid hr0,hid hs0⟩
 case round =>
  clear hba hj0 hr0 hs0 hcm' h0
  obtain ⟨k,HKL,hJk,HR,HS⟩:=hrel
  have c1:=HS.out.1.cell (z08 HCM.out) HCM.out
  have c2:=HS.out.1.cell (z08 HCN.out) HCN.out
  have HJK:=hid hJk
  have hbw:W.heap.size ≤ wr.heap.size:=by have:=HS.out.2; have:=HBA.out; omega
  have HBW:=hid hbw
  clear hJk hbw
  gi_wp2
  obtain ⟨r,hr⟩:∃ r,r = rowK names m k:=⟨_,rfl⟩
  have HRR:=hid hr
  obtain ⟨br,hbr⟩:∃ b,b = wr.heap.size:=⟨_,rfl⟩
  have HBR:=hid hbr
  obtain ⟨w5,hw5⟩:∃ Y,Y = wr.alloc (.cells (madeCells #[.string ByteArray.empty] m) 9):=⟨_,rfl⟩
  have hx5:Ext wr w5:=by rw [hw5]; exact Ext.alloc (Ext.refl _) _
  have hj5:=HJ.out _ _ w5 HJK.out (by rw [hw5]; exact (Below.refl _ _).alloc HBW.out _)
  have hr5:w5.rowIs br 9 m (strF r 0):=by rw [hbr,hw5]; exact (World.rowIs_made wr (.string ByteArray.empty) m 9).congr (fun i hi => by unfold strF; rw [if_neg (Nat.not_lt_zero _)])
  have ha5:w5.rowIs ba 3 m (atF L m k):=by rw [hw5]; exact HR.out.alloc _
  have hs5:RwS w0 ba w5:=⟨HS.out.1.trans (Kept.ext hx5 (fun i hi => by have:=HX.out.size; have:=HBW.out; unfold Old at hi; omega)),Nat.lt_of_lt_of_le HS.out.2 hx5.size⟩
  have hne:ba ≠ br:=by have:=HS.out.2; omega
  have HNE:=hid hne
  have HSZ5:Hid (br < w5.heap.size):=hid hr5.lt
  rw [← hbr]
  rw [← hw5]
  clear hbr hw5 hr hne c1 c2
  gi_loopw [15] (fun i wx => ∃ j:Nat,j ≤ m ∧ i = .int .i64 j ∧ J k wx ∧ Hid (wx.rowIs ba 3 m (atF L m k)) ∧ Hid (wx.rowIs br 9 m (strF r j)) ∧ Hid (RwS w0 ba wx)) (fun i _ => m - (intOf i).toNat)
  case atStart => exact ⟨0,Nat.zero_le _,rfl,hj5,hid ha5,hid hr5,hid hs5⟩
  case round =>
   clear hx5 hj5 hr5 ha5 hs5
   obtain ⟨j,hj,rfl,hJx,HA,HW,HS5⟩:=hrel
   have HJX:=hid hJx
   clear hJx
   by_cases hlt:j < m
   ·have c2:=HS5.out.1.cell (z08 HCN.out) HCN.out
    have a0:=HA.out.cell hlt
    have f0:=HW.out.cell hlt
    have f1:=HW.out.frozen j
    have hdl:dgt L m k j < L:=zqp (by omega)
    obtain ⟨nm,hnm⟩:=z00 (l:=names) (j:=dgt L m k j) (by rw [← HLL.out]; exact hdl)
    obtain ⟨b1,o1,rfl,-,hq1,hq2,hq3,hq4⟩:=HN.out.cellAt hnm
    have c3:=HS5.out.1.cell hq3 hq4
    have HRJ:Hid (r.getD j ByteArray.empty = nm):=hid (by
     rw [HRR.out]
     unfold rowK
     rw [List.getD_eq_getElem?_getD,List.getElem?_map,List.getElem?_range hlt,Option.map_some,Option.getD_some,← HLL.out,List.getD_eq_getElem?_getD,hnm,Option.getD_some])
    unfold atF at a0
    unfold strF at f0
    rw [if_neg (Nat.lt_irrefl _)] at f0
    obtain ⟨d,hd⟩:∃ d,d = dgt L m k j:=⟨_,rfl⟩
    rw [← hd] at a0 hdl c3
    clear hnm hd hq3 hq4
    gi_wp2
    go_roundw
    case rel => exact ⟨j + 1,by omega,by go_num,HJ.out _ _ _ HJX.out ((Below.refl _ _).setCell (p:=⟨br,j,none⟩) (by show W.heap.size ≤ br; have:=HBR.out; have:=HBW.out; omega) _),hid (HA.out.setOther HNE.out _),hid ((HW.out.set j (.string nm)).congr (fun i hi => by
     unfold strF
     by_cases e:i = j
     ·subst e; rw [if_pos rfl,if_pos (Nat.lt_succ_self _),HRJ.out]
     ·rw [if_neg e]; by_cases e2:i < j
      ·rw [if_pos e2,if_pos (by omega)]
      ·rw [if_neg e2,if_neg (by omega)])),hid ⟨HS5.out.1.trans (Kept.setCell (fun h => by have h2:br < w0.heap.size:=h; have:=HX.out.size; have:=HBW.out; have:=HBR.out; omega) _),by rw [z06]; exact HS5.out.2⟩⟩
    case measure => simp only [intOf]; omega
   ·obtain rfl:m = j:=by omega
    have hst:Strs (New w0 wr) wr (.slice (some ⟨br,0,none⟩) m m) r:=Strs.of_row HW.out (by rw [HRR.out]; exact z3a _ _ _) (by unfold maxLen; omega) ⟨by have:=HX.out.size; have:=HBW.out; have:=HBR.out; omega,HW.out.lt⟩
    rw [HRR.out] at hst
    obtain ⟨fn,tmps,assign,body,hy,hR⟩:=HY.out k _ wr HKL.out HJX.out hst
    have HR1:=hid hR
    clear hst hR
    gi_wp2
    refine HR1.out.mono ?_
    rintro e W3 (⟨rfl,hJ3,hk3⟩ | ⟨rfl,hJx3⟩)
    ·have hba3:W3.heap[ba]? = wr.heap[ba]?:=hk3.2 _ HS5.out.2 (by have:=HL1.out; have:=HBA.out; omega)
     have hA3:W3.rowIs ba 3 m (atF L m k):=HA.out.of_block hba3
     have hs3:RwS w0 ba W3:=⟨HS5.out.1.trans (fun i hi => hk3.2 i (by have h2:i < w0.heap.size:=hi; have:=HX.out.size; have:=HS5.out.2; have:=HBA.out; omega) (by have h2:i < w0.heap.size:=hi; have:=HL0.out; omega)),Nat.lt_of_lt_of_le HS5.out.2 hk3.1⟩
     have HJ3:=hid hJ3
     have HA3:=hid hA3
     have HS3:=hid hs3
     have c3:=hs3.1.cell (z08 HCM.out) HCM.out
     clear hba3 hA3 hs3 hJ3 hk3
     gi_wp2
     gi_loopw [8] (fun i wx => ∃ q:Nat,q ≤ m ∧ i = .int .i64 ((m:Int) - 1 - q) ∧ J (k + 1) wx ∧ Hid (wx.rowIs ba 3 m (zF L m k q)) ∧ Hid (k % L ^ q + 1 = L ^ q) ∧ Hid (RwS w0 ba wx)) (fun i _ => (intOf i + 1).toNat)
     case atStart => exact ⟨0,Nat.zero_le _,by simp,HJ3.out,hid (HA3.out.congr (fun i hi => by unfold zF; rw [if_neg (by omega)])),hid (by simp [Nat.mod_one]),HS3⟩
     case round =>
      obtain ⟨q,hq,rfl,hJx,HZ,HC,HSX⟩:=hrel
      have HJX2:=hid hJx
      have c2:=HSX.out.1.cell (z08 HCN.out) HCN.out
      clear hJx
      by_cases hlt:q < m
      ·obtain ⟨i,hi⟩:∃ i,i + q + 1 = m:=⟨m - 1 - q,by omega⟩
       have e1:((m:Int) - 1 - (q:Int)) = (i:Int):=by omega
       have z0:=HZ.out.cell (i:=i) (by omega)
       have z1:=HZ.out.frozen i
       have him:i < m:=by omega
       unfold zF atF at z0
       rw [if_neg (by omega)] at z0
       rw [e1]
       have hge:(0:Int) ≤ (i:Int):=by omega
       by_cases hd:dgt L m k i = L - 1
       ·have hd2:((dgt L m k i:Nat):Int) = (L:Int) - 1:=by omega
        rw [hd2] at z0
        have HD:=hid hd
        clear hd2 e1 hd
        have q1:((i:Int) + 1 - 1) = (i:Int):=by omega
        gi_wp2
        refine wpIn_wide.2 ?_
        go_quiet (fail)
        gi_wp2
        go_roundw
        case rel => exact ⟨q + 1,by omega,by go_num,HJ.out _ _ _ HJX2.out ((z71 _ wr _).setCell (p:=⟨ba,i,none⟩) (by show W.heap.size ≤ ba; have:=HBA.out; omega) _),hid ((((show (wr.drewN nq).rowIs ba 3 m (zF L m k q) from HZ.out).set i (.int .i64 0))).congr (fun j hj => by
         unfold zF
         by_cases e:j = i
         ·rw [if_pos e,if_pos (by omega)]
         ·rw [if_neg e]; by_cases e2:m ≤ j + q
          ·rw [if_pos e2,if_pos (by omega)]
          ·rw [if_neg e2,if_neg (by omega)])),hid (zps (by omega) HC.out (by have h:=HD.out; unfold dgt at h; rwa [show m - 1 - i = q by omega] at h)),hid ⟨HSX.out.1.trans ((show Kept (Old w0) wr (wr.drewN nq) from fun _ _ => rfl).trans (Kept.setCell (fun h => by have h2:ba < w0.heap.size:=h; have:=HX.out.size; have:=HBA.out; omega) _)),by rw [z06]; exact HSX.out.2⟩⟩
        case measure => simp only [intOf]; omega
       ·obtain ⟨d,hdd⟩:∃ d,d = dgt L m k i:=⟨_,rfl⟩
        have HDD:=hid hdd
        have q1:((d:Int) == ((L:Int) - 1)) = false:=by rw [beq_eq_false_iff_ne]; omega
        have HD:=hid hd
        have hdL:d < L:=by rw [hdd]; exact zqp (by omega)
        rw [← hdd] at z0
        clear hdd hd e1
        gi_wp2
        refine wpIn_wide.2 ?_
        go_quiet (fail)
        gi_wp2
        have HROW:Hid (((wr.drewN nq).setCell ⟨ba,i,none⟩ (.int .i64 ((d:Int) + 1))).rowIs ba 3 m (atF L m (k + 1))):=hid ((((show (wr.drewN nq).rowIs ba 3 m (zF L m k q) from HZ.out).set i (.int .i64 ((d:Int) + 1)))).congr (fun j hj => by
         have hdne:dgt L m k i ≠ L - 1:=HD.out
         unfold zF atF
         by_cases e:j = i
         ·subst e; rw [if_pos rfl,zse (by omega) HC.out (by omega) hdne,← HDD.out]; simp
         ·rw [if_neg e]; by_cases e2:m ≤ j + q
          ·rw [if_pos e2,zsd (by omega) HC.out hj e2]; rfl
          ·rw [if_neg e2,zsf (by omega) HC.out (by omega) (by rw [show m - 1 - q = i by omega]; exact hdne)]))
        have HKN:Hid (k + 1 < L ^ m):=hid (zsg (q:=q) (by omega) HKL.out HC.out (by omega) (by rw [show m - 1 - q = i by omega]; exact HD.out))
        go_roundw
        case rel => exact ⟨k + 1,HKN,HJ.out _ _ _ HJX2.out ((z71 _ wr _).setCell (p:=⟨ba,i,none⟩) (by show W.heap.size ≤ ba; have:=HBA.out; omega) _),HROW,hid ⟨HSX.out.1.trans ((show Kept (Old w0) wr (wr.drewN nq) from fun _ _ => rfl).trans (Kept.setCell (fun h => by have h2:ba < w0.heap.size:=h; have:=HX.out.size; have:=HBA.out; omega) _)),by rw [z06]; exact HSX.out.2⟩⟩
        case measure => rw [ztv HKN.out HROW.out,ztv HKL.out HR.out]; have:=HKL.out; omega
      ·obtain rfl:m = q:=by omega
       have e1:((m:Int) - 1 - (m:Int)) = -1:=by omega
       rw [e1]
       have HE:Hid (k + 1 = L ^ m):=hid (zsc HKL.out HC.out)
       clear e1
       gi_wp2
       refine wpIn_wide.2 ?_
       go_quiet (fail)
       gi_wp2
       refine bodyPost_ret (results_none rfl _ _ _) rfl ?_
       exact ⟨⟨_,rfl⟩,.inl (by rw [← HE.out]; exact HJ.out _ _ _ HJX2.out (z71 _ wr _))⟩
    ·gi_wp2
     refine bodyPost_ret (results_none rfl _ _ _) rfl ?_
     exact ⟨⟨_,rfl⟩,.inr ⟨_,HKL.out,hJx3⟩⟩
end
section
open Go.RowKit
def strV (s:ByteArray):Value:=.string s
theorem zpu {w:World} {base:Nat} {e:TypeId} {v:Value} {xs:List ByteArray} (h:w.ownsRow base e 1 v xs.length (xs.map strV)):Strs (fun k => base ≤ k ∧ k < w.heap.size) w v xs:=by
 have hlt:=h.lt
 rcases h.2 with ⟨rfl,h0⟩ | ⟨g,cap,cur,rfl,hg,hh,h1,h2,h3,h4⟩
 ·obtain rfl:xs = []:=List.length_eq_zero_iff.1 h0
  exact ⟨0,0,⟨none,0,rfl,Nat.le_refl _,Nat.zero_le _,fun h => absurd h (by simp),fun h => absurd h (by simp)⟩,fun j x hj => by simp at hj⟩
 ·refine ⟨g,0,⟨_,cap,rfl,h1,h2,fun _ => rfl,fun _ => hlt g rfl⟩,fun j x hj => ?_⟩
  rw [h.cellAt (0 + j) (by have:=z03 hj; omega),Nat.zero_add,List.getElem?_map,hj]
  rfl
theorem zh9 (s:ByteArray):∀ u ∈ (#[.string s]:Array Value).toList,u.oneCell' = true:=by
 intro u hu
 simp at hu
 rw [hu]; rfl
def ze1 (ts:List RTerm) (y:ByteArray × (Int × Int)):Option ByteArray:=if hasV y.2.1 ts || hasV y.2.2 ts then some y.1 else none
def z3b (x:Lay) (ts:List RTerm) (k:Nat):List ByteArray:=((x.pts.zip x.ats).take k).filterMap (ze1 ts)
def z0q (x:Lay) (ts:List RTerm):List ByteArray:=(x.pts.zip x.ats).filterMap (ze1 ts)
theorem zj7 (x:Lay) (ts:List RTerm) (k:Nat):(z3b x ts k).length ≤ k:=Nat.le_trans (List.length_filterMap_le _ _) (by rw [List.length_take]; omega)
theorem zfs {W:World} {v vp:Value} {x:Lay} {ts:List RTerm} (hx:LayV (Old W) W v x) (ht:z0h (Old W) W vp ts) (hpl:x.pts.length ≤ 1000) (hal:x.ats.length ≤ 1000) :
  Calls Tryz.prog 71 #[v,vp] W fun e w' => ∃ v',e = .returned v' ∧ Strs (New W w') w' v' (z0q x ts) ∧ Ext W w':=by
 have hmin:∀ (a b:Nat),(min (a:Int) (b:Int)) = ((min a b:Nat):Int):=fun a b => by omega
 obtain ⟨vq,va,rfl,hp,ha⟩:=hx
 have HP:=hid hp
 have HA:=hid ha
 have HT:=hid ht
 obtain ⟨ap,cp,rfl⟩:=hp.form
 obtain ⟨aa,ca,rfl⟩:=ha.form
 obtain ⟨at_,ct,rfl⟩:=ht.form
 obtain ⟨np,hnp⟩:∃ n,n = x.pts.length:=⟨_,rfl⟩
 obtain ⟨na,hna⟩:∃ n,n = x.ats.length:=⟨_,rfl⟩
 obtain ⟨nt,hnt⟩:∃ n,n = ts.length:=⟨_,rfl⟩
 rw [← hnp] at HP hpl ⊢
 rw [← hna] at HA hal ⊢
 rw [← hnt] at HT ⊢
 have HNP:=hid hnp
 have HNA:=hid hna
 obtain ⟨w0,hw0⟩:∃ Y,Y = W.alloc (.cells #[.slice ap np cp,.slice aa na ca,.int .i64 x.par,.int .i64 x.vrs] 35):=⟨_,rfl⟩
 have HX0:Hid (Ext W w0):=hid (by rw [hw0]; exact Ext.alloc (Ext.refl _) _)
 have HB:=hid (fun (Y:World) (hY:Ext w0 Y) => z94 W (.slice ap np cp) (.slice aa na ca) (.int .i64 x.par) (.int .i64 x.vrs) 35 (Y:=Y) (by rw [← hw0]; exact hY))
 obtain ⟨d0,d1⟩:=HB.out w0 (Ext.refl _)
 rw [hw0] at d0 d1
 obtain ⟨m,hm⟩:∃ m,m = min np na:=⟨_,rfl⟩
 have HM:=hid hm
 have hmn:=hmin np na
 rw [← hm] at hmn
 clear hp ha ht hnp hna hnt hmin hm
 go_enter Tryz.func71,Tryz.ntmps71
 go_wp2
 rw [← hw0]
 clear d0 d1
 go_loopw [4,13] (fun o i wr => ∃ k:Nat,k ≤ m ∧ i = .int .i64 k ∧ Hid (wr.ownsRow w0.heap.size 9 1 o (z3b x ts k).length ((z3b x ts k).map strV)) ∧ Ext w0 wr) (fun _ i _ => m - (intOf i).toNat)
 case atStart => exact ⟨0,Nat.zero_le _,rfl,hid (World.ownsRow_nil _ _ _ _),Ext.refl _⟩
 case round =>
  obtain ⟨k,hk,rfl,HO,hxr⟩:=hrel
  have HX:=hid hxr
  obtain ⟨c0,c1⟩:=HB.out _ hxr
  clear hxr
  by_cases hlt:k < m
  ·have hk1:k < np:=by have:=HM.out; omega
   have hk2:k < na:=by have:=HM.out; omega
   obtain ⟨nm,hnm⟩:=z00 (l:=x.pts) (j:=k) (by rw [← HNP.out]; exact hk1)
   obtain ⟨c,hc⟩:=z00 (l:=x.ats) (j:=k) (by rw [← HNA.out]; exact hk2)
   obtain ⟨b1,o1,rfl,-,hq1,hq2,-,hq3⟩:=(HP.out.to (Kept.ext (HX0.out.trans HX.out) (fun _ h => h)) (z2b (HX0.out.trans HX.out))).cellAt hnm
   obtain ⟨b2,o2,rfl,-,hq4,hq5,-,-,z0,z1⟩:=(HA.out.on (HX0.out.trans HX.out)).cellAt hc
   have HZ:Hid ((x.pts.zip x.ats)[k]? = some (nm,c)):=hid (by rw [List.getElem?_zip_eq_some]; exact ⟨hnm,hc⟩)
   obtain ⟨u,z⟩:=c
   simp only at z0 z1
   have HNK:Hid (z3b x ts (k + 1) = z3b x ts k ++ (match ze1 ts (nm,(u,z)) with | some a => [a] | none => [])):=hid (by
    unfold z3b
    rw [List.take_add_one,HZ.out,List.filterMap_append]
    show _ ++ List.filterMap (ze1 ts) [(nm,(u,z))] = _
    rw [List.filterMap_cons]
    cases ze1 ts (nm,(u,z)) <;> rfl)
   have HH1:=hid (zh8 (S:=Old wr) _ ts u wr (HT.out.on (HX0.out.trans HX.out)) (fun _ h => h))
   have HH2:=hid (fun (Y:World) (hY:Ext wr Y) => zh8 (S:=Old Y) _ ts z Y (HT.out.on ((HX0.out.trans HX.out).trans hY)) (fun _ h => h))
   have HDL:Hid ((z3b x ts k).length ≤ 1000000000):=hid (Nat.le_trans (zj7 x ts k) (by omega))
   have HQ3:=hid hq3
   have HZ1:=hid z1
   obtain ⟨bx,hbx⟩:∃ b,b = hasV u ts:=⟨_,rfl⟩
   obtain ⟨bz,hbz⟩:∃ b,b = hasV z ts:=⟨_,rfl⟩
   rw [← hbx] at HH1
   rw [← hbz] at HH2
   have HBX:=hid hbx
   have HBZ:=hid hbz
   clear hnm hc hbx hbz hq3 z1
   go_wp2_with fail
   with_reducible refine HH1.out.mono ?_
   rintro e w1 ⟨rfl,hx1⟩
   have HX1:=hid (HX.out.trans hx1)
   have HX1':=hid hx1
   obtain ⟨e0,e1⟩:=HB.out _ HX1.out
   have hq3:=hx1.cell HQ3.out
   have z1:=hx1.cell HZ1.out
   have HO1:Hid (w1.ownsRow w0.heap.size 9 1 _ (z3b x ts k).length ((z3b x ts k).map strV)):=hid (z0o HO.out hx1)
   have HBS2:Hid (w0.heap.size ≤ w1.heap.size):=hid HX1.out.size
   clear hx1 c0 c1 z0
   cases bx with
   | true =>
    have HPK:Hid (z3b x ts (k + 1) = z3b x ts k ++ [nm]):=hid (by rw [HNK.out]; unfold ze1; simp only [← HBX.out]; rfl)
    go_wp2_with (at_builtin; refine z09 _ rfl (.tmp 34) (.tmp 40) 32 rfl w0.heap.size 9 (.string ByteArray.empty) 1 16 Tryz.underlying32 Tryz.infoStr rfl (by decide) _ _ _ rfl HO1.out #[.string nm] rfl (zh9 _) rfl HDL.out (by decide) HBS2.out ?_; intro v1 w5 hown hg _; have HOW:=hid hown; have HG:=hid hg; clear hown hg)
    go_roundw
    case rel =>
     refine ⟨k + 1,by omega,by go_num,hid ?_,z1f HX1.out HO1.out HG.out⟩
     rw [HPK.out,List.length_append,List.map_append]
     exact HOW.out
    case measure => simp only [intOf]; omega
   | false =>
    go_wp2_with fail
    with_reducible refine (HH2.out w1 HX1'.out).mono ?_
    rintro e w2 ⟨rfl,hx2⟩
    have HX1:=hid (HX1.out.trans hx2)
    obtain ⟨f0,f1⟩:=HB.out _ HX1.out
    have hq3:=hx2.cell hq3
    have HO1:Hid (w2.ownsRow w0.heap.size 9 1 _ (z3b x ts k).length ((z3b x ts k).map strV)):=hid (z0o HO1.out hx2)
    have HBS2:Hid (w0.heap.size ≤ w2.heap.size):=hid HX1.out.size
    clear hx2 e0 e1 z1
    cases bz with
    | true =>
     have HPK:Hid (z3b x ts (k + 1) = z3b x ts k ++ [nm]):=hid (by rw [HNK.out]; unfold ze1; simp only [← HBX.out,← HBZ.out]; rfl)
     go_wp2_with (at_builtin; refine z09 _ rfl (.tmp 34) (.tmp 40) 32 rfl w0.heap.size 9 (.string ByteArray.empty) 1 16 Tryz.underlying32 Tryz.infoStr rfl (by decide) _ _ _ rfl HO1.out #[.string nm] rfl (zh9 _) rfl HDL.out (by decide) HBS2.out ?_; intro v1 w5 hown hg _; have HOW:=hid hown; have HG:=hid hg; clear hown hg)
     go_roundw
     case rel =>
      refine ⟨k + 1,by omega,by go_num,hid ?_,z1f HX1.out HO1.out HG.out⟩
      rw [HPK.out,List.length_append,List.map_append]
      exact HOW.out
     case measure => simp only [intOf]; omega
    | false =>
     have HPK:Hid (z3b x ts (k + 1) = z3b x ts k):=hid (by rw [HNK.out]; unfold ze1; simp only [← HBX.out,← HBZ.out]; exact List.append_nil _)
     go_wp2
     go_roundw
     case rel => exact ⟨k + 1,by omega,by go_num,hid (by rw [HPK.out]; exact HO1.out),HX1.out⟩
     case measure => simp only [intOf]; omega
  ·obtain rfl:m = k:=by omega
   have HTN:Hid (z3b x ts m = z0q x ts):=hid (by
    unfold z3b z0q
    rw [List.take_of_length_le (by rw [List.length_zip,← HNP.out,← HNA.out,HM.out]; exact Nat.le_refl _)])
   go_wp2
   all_goals
    go_ret
    have h1:=HO.out
    rw [HTN.out] at h1
    exact ⟨_,rfl,(zpu h1).to (Kept.refl _ _) (fun j hj => ⟨Nat.le_trans HX0.out.size hj.1,hj.2⟩),HX0.out.trans HX.out⟩
end
section
open Go.RowKit
structure SideD where
 word:ByteArray
 pts:List ByteArray
 poly:List RTerm
 deriving DecidableEq
def ztw (S:Nat → Prop) (W:World) (v:Value) (s:SideD):Prop:=∃ vn vp,v = .agg #[.string s.word,vn,vp] ∧ Strs S W vn s.pts ∧ z0h S W vp s.poly
theorem z95 (a:Option Addr) (len cap:Nat) (m:Int) (w:World):Calls Tryz.prog 72 #[.slice a len cap,.int .i64 m] w fun e w' => e = .returned (.func (.func 107) #[] #[.pointer (some ⟨w.heap.size + 1,0,none⟩),.pointer (some ⟨w.heap.size,0,none⟩)]) ∧ w' = (w.alloc (.cells #[.slice a len cap] 32)).alloc (.cells #[.int .i64 m] 3):=by
 have hmf:∀ (fn:Fn) (first cap:Array Value) (w:World),(Instr.makeFunc fn first cap).run Tryz.prog w = .ok (.func fn first cap) w:=fun _ _ _ _ => rfl
 go_enter Tryz.func72,Tryz.ntmps72
 go_wp2
 go_ret
 exact ⟨rfl,rfl⟩
end
section
open Go.RowKit Go.Shelf
attribute [local go_sem] Oper.semAt_some
def z1z (p:PZ):Nat:=p.foldr (fun t g => Nat.gcd g t.1.natAbs) 0
def dn (len k:Nat):List Nat:=(List.range k).map fun q => len - 1 - q
theorem zsh (len k:Nat):dn len (k + 1) = dn len k ++ [len - 1 - k]:=by simp [dn,List.range_succ]
theorem ze2 (len k:Nat):(dn len k).length = k:=by simp [dn]
theorem ztx (p:PZ):(dn p.length p.length).map (fun j => p.getD j (0,[])) = p.reverse:=by
 refine List.ext_getElem (by simp [dn]) (fun i h1 h2 => ?_)
 simp only [List.length_map,ze2] at h1
 simp only [dn,List.getElem_map,List.getElem_range,List.getElem_reverse,List.getD_eq_getElem?_getD]
 rw [List.getElem?_eq_getElem (by omega),Option.getD_some]
def gcdL (p:PZ) (l:List Nat):Nat:=l.foldl (fun g j => Nat.gcd g (p.getD j (0,[])).1.natAbs) 0
theorem zmv (p:PZ) (l:List Nat) (j:Nat):gcdL p (l ++ [j]) = Nat.gcd (gcdL p l) (p.getD j (0,[])).1.natAbs:=by simp [gcdL]
theorem zpv (p:PZ):gcdL p (dn p.length p.length) = z1z p:=by
 have h:=List.foldl_map (f:=fun j => p.getD j (0,[])) (g:=fun g (t:Int × Mono) => Nat.gcd g t.1.natAbs) (l:=dn p.length p.length) (init:=0)
 rw [ztx,List.foldl_reverse] at h
 exact h.symm
def KpB (m0 Bs:Nat) (A B:World):Prop:=Kept (fun k => k < m0 ∨ k = Bs) A B
def tvAt (ts:List RTerm) (vm vo:Nat → Value) (j:Nat):Value:=if j < ts.length then .agg #[.bool (ts.getD j ⟨⟨false,[]⟩,[]⟩).c.neg,vm j,vo j] else .agg #[.bool false,.slice none 0 0,.slice none 0 0]
theorem zpw (a:Option Addr) (len cap:Nat) (w:World):Calls Tryz.prog 102 #[.slice a len cap] w fun e w' => e = .returned (.func (.func 126) #[] #[.pointer (some ⟨w.heap.size,0,none⟩)]) ∧ w' = w.alloc (.cells #[.slice a len cap] 23):=by
 have hmf:∀ (fn:Fn) (first cap:Array Value) (w:World),(Instr.makeFunc fn first cap).run Tryz.prog w = .ok (.func fn first cap) w:=fun _ _ _ _ => rfl
 go_enter Tryz.func102,Tryz.ntmps102
 go_wp2
 go_ret
 exact ⟨rfl,rfl⟩
theorem zpx (F:Fence) (n:Nat) (hF:F.fn 126) (hro:F.round = none) (hn:1 ≤ n) (l Bs m0 b off cap:Nat) (a:Option Addr) (ts:List RTerm) (vm vo:Nat → Value) (hb:0 < ts.length → b < m0) (ha:0 < ts.length → a = some ⟨b,off,none⟩) (hcap:cap ≤ 9223372036854775807) (hlc:ts.length ≤ cap)
  (J Jx:List Nat → World → Prop)
  (hY:∀ pre x W,J pre W → pre.length < ts.length → YieldAt F (n - 1) Tryz.prog l #[tvAt ts vm vo x] W fun e W' =>
   (e = .returned (.bool true) ∧ J (pre ++ [x]) W' ∧ KpB m0 Bs W W') ∨ (e = .returned (.bool false) ∧ Jx (pre ++ [x]) W'))
  (W:World) (hBs:W.cell? ⟨Bs,0,none⟩ = some (.slice a ts.length cap)) (hc:∀ j,j < ts.length → W.cell? ⟨b,off + j * 3,none⟩ = some (.bool (ts.getD j ⟨⟨false,[]⟩,[]⟩).c.neg) ∧ W.cell? ⟨b,off + j * 3 + 1,none⟩ = some (vm j) ∧ W.cell? ⟨b,off + j * 3 + 2,none⟩ = some (vo j)) (h0:J [] W) :
  CallsIn F n Tryz.prog 126 #[.func (.yield l) #[] #[],.pointer (some ⟨Bs,0,none⟩)] W fun e W' => (∃ v,e = .returned v) ∧
   ((∃ ys,ys = dn ts.length ts.length ∧ J ys W') ∨ (∃ pre,True ∧ Jx pre W')):=by
 have HC:=hid hc
 have HY:=hid hY
 have HA:=hid ha
 obtain ⟨len,hlen⟩:∃ len,len = ts.length:=⟨_,rfl⟩
 have HL:=hid hlen
 rw [← hlen] at hBs hlc
 clear hc hY ha hlen
 refine callsIn_of_wp Tryz.func126 rfl hF ?_ hro
 simp only [Tryz.ntmps126,List.size_toArray,List.length_cons,List.length_nil,Nat.reduceAdd,Nat.reduceSub,Array.replicate_succ,Array.replicate_zero,List.push_toArray,List.append_toArray,List.nil_append,List.cons_append]
 gi_wp2
 gi_loopw [3] (fun i wr => ∃ j k:Nat,j + k = len ∧ i = .int .i64 ((j:Int) - 1) ∧ J (dn len k) wr ∧ Hid (KpB m0 Bs W wr))
  (fun i _ => (intOf i + 1).toNat)
 case atStart => exact ⟨len,0,rfl,rfl,h0,Kept.refl _ _⟩
 case round =>
  obtain ⟨j,k,hjk,rfl,hJs,hkp⟩:=hrel
  have dBs:=hkp.out.cell (.inr rfl) hBs
  by_cases h:0 < j
  ·obtain ⟨jj,rfl⟩:∃ jj,j = jj + 1:=⟨j - 1,by omega⟩
   have hjl:jj < ts.length:=by have:=HL.out; omega
   obtain ⟨c0,c1,c2⟩:=HC.out jj hjl
   obtain rfl:=HA.out (by omega)
   have d0:=hkp.out.cell (b:=b) (.inl (hb (by omega))) c0
   have d1:=hkp.out.cell (b:=b) (.inl (hb (by omega))) c1
   have d2:=hkp.out.cell (b:=b) (.inl (hb (by omega))) c2
   obtain ⟨fn,tmps,assign,body,hy,hR⟩:=HY.out _ jj wr hJs (by rw [ze2,← HL.out]; omega)
   rw [show tvAt ts vm vo jj = .agg #[.bool (ts.getD jj ⟨⟨false,[]⟩,[]⟩).c.neg,vm jj,vo jj] from if_pos hjl] at hy
   obtain ⟨ng,hng⟩:∃ g,g = (ts.getD jj ⟨⟨false,[]⟩,[]⟩).c.neg:=⟨_,rfl⟩
   obtain ⟨um,hum⟩:∃ g,g = vm jj:=⟨_,rfl⟩
   obtain ⟨uo,huo⟩:∃ g,g = vo jj:=⟨_,rfl⟩
   rw [← hng] at d0 hy
   rw [← hum] at d1 hy
   rw [← huo] at d2 hy
   have e1:(((jj + 1:Nat):Int) - 1) = (jj:Int):=by omega
   rw [e1]
   clear c0 c1 c2 hng hum huo e1 h
   gi_wp2
   refine hR.mono ?_
   rintro e W3 (⟨rfl,hJ3,hk3⟩ | ⟨rfl,hJx3⟩)
   ·gi_wp2
    go_roundw
    case rel => exact ⟨jj,k + 1,by omega,rfl,by rw [zsh,show len - 1 - k = jj by omega]; exact hJ3,hid (hkp.out.trans hk3)⟩
    case measure => simp [intOf]
   ·gi_wp2
    refine bodyPost_ret (results_none rfl _ _ _) rfl ?_
    exact ⟨⟨_,rfl⟩,.inr ⟨_,trivial,hJx3⟩⟩
  ·obtain rfl:j = 0:=by omega
   obtain rfl:k = len:=by omega
   gi_wp2
   go_end0
   exact ⟨⟨_,rfl⟩,.inl ⟨_,by rw [← HL.out],hJs⟩⟩
theorem zb1 {S:Nat → Prop} {w w':World} {v:Value} {zs:List Nat} (h:U32s S w v zs) (hc:∀ a u,w.cell? a = some u → w'.cell? a = some u):U32s S w' v zs:=by
 obtain ⟨b,off,hs,hz⟩:=h
 exact ⟨b,off,hs,fun j z hj => ⟨(hz j z hj).1,hc _ _ (hz j z hj).2⟩⟩
theorem KeepsOthers.of_ext {W W':World} (h:Ext W W'):KeepsOthers W W':=⟨h.size,fun k _ hk _ => (h.block k (Array.getElem?_eq_some_iff.1 hk).1).trans hk⟩
structure IntAt (w:World) (b:Nat) (W:World) (g:Int) (a:Option Addr) (c:Nat):Prop where
 c0:W.cell? ⟨b,0,none⟩ = some (.bool (ofI g).neg)
 c1:W.cell? ⟨b,1,none⟩ = some (.slice a (ofI g).mag.length c)
 f0:W.frozen? ⟨b,0,none⟩ = false
 f1:W.frozen? ⟨b,1,none⟩ = false
 u:U32s (fun k => w.heap.size ≤ k ∧ k < W.heap.size ∧ k ≠ b) W (.slice a (ofI g).mag.length c) (ofI g).mag
 ex:Ext w W
 lo:w.heap.size ≤ b
theorem IntAt.own {w W W':World} {b B:Nat} {g:Int} {a:Option Addr} {c:Nat} {row:Option Nat} (h:IntAt w b W g a c) (hB:w.heap.size ≤ B) (hg:W.grownBy W' row) (hr:∀ r,row = some r → B ≤ r ∧ ∃ o:Obj,W.heap[r]? = some o ∧ o.isCells = false):IntAt w b W' g a c :=
 ⟨cell_kept h.c0 hg (fun r e => (hr r e).2),cell_kept h.c1 hg (fun r e => (hr r e).2),(frozen_kept h.c0 hg (fun r e => (hr r e).2)).trans h.f0,(frozen_kept h.c1 hg (fun r e => (hr r e).2)).trans h.f1,
  (zb1 h.u (fun _ _ hc => cell_kept hc hg (fun r e => (hr r e).2))).to (Kept.refl _ _) (fun _ hk => ⟨hk.1,Nat.lt_of_lt_of_le hk.2.1 hg.size,hk.2.2⟩),h.ex.grown hg h.ex.size (fun k e => Nat.le_trans hB (hr k e).1),h.lo⟩
theorem IntAt.ext {w W W':World} {b:Nat} {g:Int} {a:Option Addr} {c:Nat} (h:IntAt w b W g a c) (hx:Ext W W'):IntAt w b W' g a c :=
 ⟨hx.cell h.c0,hx.cell h.c1,hx.free (z08 h.c0) h.f0,hx.free (z08 h.c0) h.f1,h.u.to (Kept.ext hx (fun _ h => h.2.1)) (fun _ hk => ⟨hk.1,Nat.lt_of_lt_of_le hk.2.1 hx.size,hk.2.2⟩),h.ex.trans hx,h.lo⟩
theorem IntAt.put {w W W':World} {b:Nat} {g g':Int} {a a':Option Addr} {c c':Nat} (h:IntAt w b W g a c) (hx:Ext W W') (hu:U32s (New W W') W' (.slice a' (ofI g').mag.length c') (ofI g').mag) :
  IntAt w b ((W'.setCell ⟨b,0,none⟩ (.bool (ofI g').neg)).setCell ⟨b,1,none⟩ (.slice a' (ofI g').mag.length c')) g' a' c':=by
 have k:=h.ext hx
 have hl:=z08 h.c0
 have t:=z0v (.bool (ofI g').neg) (.slice a' (ofI g').mag.length c') k.c0 k.c1
 refine ⟨t.1,t.2,ztc k.f0 _ _,ztc k.f1 _ _,?_,k.ex.set2 h.lo _ _,h.lo⟩
 exact (zqh hu (fun e => by have:=e.1; omega) _ _).to (Kept.refl _ _) (fun i hi => ⟨Nat.le_trans h.ex.size hi.1,by simp only [z06]; exact hi.2,by have:=hi.1; omega⟩)
theorem zpy {p:PZ} {K:Nat} (h:∀ j,(ofI (p.getD j (0,[])).1).mag.length ≤ K) (l:List Nat):(ofI (gcdL p l:Int)).mag.length ≤ K:=by
 have key:∀ (l:List Nat) (g:Nat),(ofI (g:Int)).mag.length ≤ K → (ofI ((l.foldl (fun g j => Nat.gcd g (p.getD j (0,[])).1.natAbs) g:Nat):Int)).mag.length ≤ K:=by
  intro l
  induction l with
  | nil => exact fun g hg => hg
  | cons j r ih =>
   intro g hg
   refine ih _ ?_
   show (ofI ((Nat.gcd g (p.getD j (0,[])).1.natAbs:Nat):Int)).mag.length ≤ K
   by_cases h0:(p.getD j (0,[])).1 = 0
   ·rw [h0]
    simpa using hg
   ·refine Nat.le_trans (z1q ?_) (h j)
    rw [Int.natAbs_natCast]
    exact Nat.le_of_dvd (by omega) (Nat.gcd_dvd_right _ _)
 exact key l 0 (by show (rep B32 _).length ≤ K; rw [show (rep B32 (((0:Nat):Int)).natAbs).length = 0 by decide]; exact Nat.zero_le _)
theorem ze3 {S:Nat → Prop} (v:Value) (ts:List RTerm) (w:World) (h:z0h S w v ts) (hS:∀ k,S k → k < w.heap.size) (hr:∀ t ∈ ts,t.c.mag.length ≤ 10000000000) (hm:mayT ts = true) :
  Calls Tryz.prog 67 #[v] w fun e w' => ∃ v',e = .returned v' ∧ IntV (New w w') w' v' (ofI (z1z (toP ts):Nat)) ∧ Ext w w':=by
 have hnot:∀ (x:Bool) (w:World),(Op.unary .not (.bool x)).run Tryz.prog w = .ok (.bool (!x)) w:=fun _ _ => rfl
 have hrs:zaj ts:=fun t ht => Nat.le_trans (hr t ht) (by decide)
 have HS:=hid hS
 have CM:=hid (fun (Y:World) (hY:Ext w Y) => z8v v ts Y (h.ext hY hS) (fun k hk => Nat.lt_of_lt_of_le (hS k hk) hY.size) hrs)
 rw [hm] at CM
 have hll:=h.len_le
 have H:=h
 obtain ⟨b,off,⟨a,cap,rfl,hlc,hcap,ha,hSb⟩,hc⟩:=H
 unfold maxLen at hcap
 obtain ⟨vf,hvf⟩:=Classical.axiomOfChoice (r:=fun (j:Nat) (p:Value × Value) => ∀ t,ts[j]? = some t → w.cell? ⟨b,off + j * 3,none⟩ = some (.bool t.c.neg) ∧ w.cell? ⟨b,off + j * 3 + 1,none⟩ = some p.1 ∧ w.cell? ⟨b,off + j * 3 + 2,none⟩ = some p.2 ∧ U32s S w p.1 t.c.mag ∧ ∃ ao no co,p.2 = .slice ao no co) (fun j => by
  cases ht:ts[j]? with
  | none => exact ⟨(undef,undef),fun t h => by cases h⟩
  | some t =>
   obtain ⟨vm,vo,h1,h2,h3,h4,h5⟩:=hc j t ht
   obtain ⟨ao,co,h6⟩:=h5.form
   exact ⟨(vm,vo),fun u hu => by cases hu; exact ⟨h1,h2,h3,h4,ao,_,co,h6⟩⟩)
 have HC:Hid (∀ j,j < ts.length → w.cell? ⟨b,off + j * 3,none⟩ = some (.bool (ts.getD j ⟨⟨false,[]⟩,[]⟩).c.neg) ∧ w.cell? ⟨b,off + j * 3 + 1,none⟩ = some (vf j).1 ∧ w.cell? ⟨b,off + j * 3 + 2,none⟩ = some (vf j).2):=hid (fun j hj => by
  obtain ⟨t,ht⟩:=z00 hj
  have h1:=hvf j t ht
  rw [List.getD_eq_getElem?_getD,ht,Option.getD_some]
  exact ⟨h1.1,h1.2.1,h1.2.2.1⟩)
 obtain ⟨cz,hcz⟩:∃ cz:Nat → RInt,∀ j,cz j = (ts.getD j ⟨⟨false,[]⟩,[]⟩).c:=⟨_,fun _ => rfl⟩
 have HTV:Hid (∀ j,∃ (vm vo:Value),tvAt ts (fun j => (vf j).1) (fun j => (vf j).2) j = .agg #[.bool (cz j).neg,vm,vo] ∧ U32s S w vm (cz j).mag ∧ (cz j).mag.length ≤ 10000000000 ∧ valI (cz j) = ((toP ts).getD j (0,[])).1 ∧ ∃ ao no co,vo = .slice ao no co):=hid (fun j => by
  rw [hcz]
  by_cases hj:j < ts.length
  ·obtain ⟨t,ht⟩:=z00 hj
   have h1:=hvf j t ht
   have e:ts.getD j ⟨⟨false,[]⟩,[]⟩ = t:=by rw [List.getD_eq_getElem?_getD,ht,Option.getD_some]
   have e2:(toP ts).getD j (0,[]) = (valI t.c,t.m):=by rw [List.getD_eq_getElem?_getD,toP,List.getElem?_map,ht]; rfl
   rw [e,e2]
   exact ⟨(vf j).1,(vf j).2,by rw [tvAt,if_pos hj,e],h1.2.2.2.1,hr t (List.mem_of_getElem? ht),rfl,h1.2.2.2.2⟩
  ·have e:ts.getD j ⟨⟨false,[]⟩,[]⟩ = ⟨⟨false,[]⟩,[]⟩:=by rw [List.getD_eq_getElem?_getD,List.getElem?_eq_none (by omega)]; rfl
   have e2:(toP ts).getD j (0,[]) = (0,[]):=by rw [List.getD_eq_getElem?_getD,toP,List.getElem?_map,List.getElem?_eq_none (by omega)]; rfl
   rw [e,e2]
   exact ⟨_,_,by rw [tvAt,if_neg hj],U32s.nilv _ _ _ _ (by omega),Nat.zero_le _,by decide,_,_,_,rfl⟩)
 have HG:Hid (gcdL (toP ts) (dn ts.length ts.length) = z1z (toP ts)):=hid (by
  have h1:=zpv (toP ts)
  rwa [show (toP ts).length = ts.length from List.length_map ..] at h1)
 have HA:=hid ha
 have HH:=hid h
 obtain ⟨len,hlen⟩:∃ len,len = ts.length:=⟨_,rfl⟩
 have HL:=hid hlen
 rw [← hlen] at hll hlc CM
 rw [← hlen]
 obtain ⟨w0,hw0⟩:∃ W,W = w.alloc (.cells #[.bool false,.slice none 0 0] 26):=⟨_,rfl⟩
 have HX0:Hid (Ext w w0):=hid (by rw [hw0]; exact Ext.alloc (Ext.refl w) _)
 have CM0:=hid (CM.out w0 HX0.out)
 rw [hw0] at CM0
 have HW0:=hid hw0
 have HG0:Hid (IntAt w w.heap.size w0 0 none 0):=hid (by
  rw [hw0]
  have h1:Ext (w.alloc (.cells #[.bool false,.slice none 0 0] 26)) (w.alloc (.cells #[.bool false,.slice none 0 0] 26)):=Ext.refl _
  exact ⟨h1.new_cell rfl,h1.new_cell rfl,h1.new_free 0,h1.new_free 1,U32s.nilv _ _ _ _ (by omega),Ext.alloc (Ext.refl w) _,Nat.le_refl _⟩)
 clear h hS hr hm hc ha hSb hvf hlen hw0 hrs hcz
 refine (callsIn_wide (n:=4)).1 ?_
 refine callsIn_of_wp_marks Tryz.func67 rfl trivial ?_ rfl
 simp only [Tryz.ntmps67,List.size_toArray,List.length_cons,List.length_nil,Nat.reduceAdd,Nat.reduceSub,Array.replicate_succ,Array.replicate_zero,List.push_toArray,List.append_toArray,List.nil_append,List.cons_append]
 gi_wp2_with (first
  | (refine ⟨trivial,?_⟩; gi_at_call 31; refine (callsIn_wide.2 CM0.out).mono ?_; rintro e w1 ⟨rfl,hx1⟩; rw [← HW0.out] at hx1; have HX1:=hid hx1; clear hx1)
  | (refine ⟨trivial,?_⟩; gi_at_call 102; refine (callsIn_wide.2 (zpw _ _ _ _)).mono ?_; rintro e w2 ⟨rfl,rfl⟩))
 have HXL:=hid (show Ext w (w1.alloc (.cells #[.slice a len cap] 23)) from (HX0.out.trans HX1.out).trans (Ext.alloc (Ext.refl _) _))
 have HS1:Hid (w.heap.size < w1.heap.size):=hid (by have h1:=HX1.out.size; have h2:=z08 HG0.out.c0; omega)
 have HSL:Hid ((w1.alloc (.cells #[.slice a len cap] 23)).heap.size = w1.heap.size + 1):=hid (by simp)
 have HGL:=hid ((HG0.out.ext HX1.out).ext (Ext.alloc (Ext.refl w1) (.cells #[.slice a len cap] 23)))
 have HLN:Hid (∀ pre,(ofI (gcdL (toP ts) pre:Int)).mag.length ≤ 10000000000):=hid (fun pre => zpy (fun j => by
  obtain ⟨vm,vo,-,hu,h1,h2,-⟩:=HTV.out j
  rw [← h2]
  show (rep B32 _).length ≤ _
  rw [zov]
  exact Nat.le_trans (z3g hu.lt) h1) pre)
 refine wpIn_rangeFunc_ownH rfl (by decide) (gf:=126) (lb:=#[.pointer (some ⟨w1.heap.size,0,none⟩)]) rfl trivial (enters_of Tryz.func126 (by kernel_rfl) rfl)
  (encs:=fun j => #[tvAt ts (fun j => (vf j).1) (fun j => (vf j).2) j]) (Kp:=KpB w.heap.size w1.heap.size) (S:=fun ys => ys = dn ts.length ts.length) (Sp:=fun _ => True) (N:=ts.length) (w0:=w1.alloc (.cells #[.slice a len cap] 23))
  (fun l J Jx W hW _ _ hY h0 => zpx _ _ trivial rfl (by decide) l w1.heap.size w.heap.size b off cap a ts (fun j => (vf j).1) (fun j => (vf j).2) (fun h => by
    obtain ⟨b',off',⟨a',cap',e1,-,-,e2,e3⟩,-⟩:=HH.out
    obtain ⟨rfl,-,rfl⟩:a = a' ∧ ts.length = ts.length ∧ cap = cap':=by simpa using e1
    have e4:=(HA.out h).symm.trans (e2 h)
    obtain ⟨rfl,-⟩:b = b' ∧ off = off':=by simpa using e4
    exact HS.out _ (e3 h)) HA.out hcap (by rw [← HL.out]; exact hlc) J Jx hY W
   (by rw [← HL.out]; exact hW.cell (p:=⟨w1.heap.size,0,none⟩) (by simp) |>.trans (z02 _ _ _ rfl rfl))
   (fun j hj => by
    have h1:=HC.out j hj
    have hx:Ext w W:=HXL.out.trans hW
    exact ⟨hx.cell h1.1,hx.cell h1.2.1,hx.cell h1.2.2⟩) h0)
  (fun h k => Kept.trans h k) (fun W l o o' hl _ _ _ => fun k hk => World.putObj_heap_other (fun e => by
   have h1:=HSL.out
   have h2:=HS1.out
   rcases hk with hk | hk <;> omega)) (Below.refl _ _) (fun _ => rfl)
  (fun pre W => (∃ a' c',IntAt w w.heap.size W (gcdL (toP ts) pre) a' c') ∧ w1.heap.size < W.heap.size) (fun _ _ _ => False)
  (fun pre W W' row hs hg hr => by
   obtain ⟨⟨a',c',h1⟩,h2⟩:=hs
   exact ⟨⟨a',c',h1.own HXL.out.size hg hr⟩,Nat.lt_of_lt_of_le h2 hg.size⟩) (fun _ _ _ _ _ hs _ _ => hs) ⟨⟨_,_,HGL.out⟩,by rw [HSL.out]; exact Nat.lt_succ_self _⟩
  (fun x a' W => ∃ (Bx:Nat) (vm vo:Value),W.cell? ⟨Bx,0,none⟩ = some (.bool (cz x).neg) ∧ W.cell? ⟨Bx,1,none⟩ = some vm ∧ U32s S w vm (cz x).mag ∧
   a' = { tmps:=#[.slice a len cap,undef,.pointer (some ⟨w.heap.size,0,none⟩),.pointer (some ⟨Bx,0,none⟩),.slice a len cap,.bool true,.bool false,undef,.slice a len cap,.func (.func 126) #[] #[.pointer (some ⟨w1.heap.size,0,none⟩)],.agg #[.bool (cz x).neg,vm,vo],undef,undef,undef,undef,undef],defers:=[] })
  (fun x a' _ W W' row hs hg hr => by
   obtain ⟨Bx,vm,vo,h1,h2,h3,h4⟩:=hs
   exact ⟨Bx,vm,vo,cell_kept h1 hg (fun r e => (hr r e).2),cell_kept h2 hg (fun r e => (hr r e).2),h3,h4⟩)
  ?assign ?body ?done ?stop
 case assign =>
  intro l pre x W K hi hK
  obtain ⟨vm,vo,htv,hu,-,-,ao,no,co,rfl⟩:=HTV.out x
  obtain ⟨am,cm,rfl⟩:=hu.form
  dsimp only
  rw [htv]
  gi_wp2
  obtain ⟨⟨ag,cg,hG⟩,hwl⟩:=hi
  have hxa:Ext W (W.alloc (.cells #[.bool (cz x).neg,.slice am (cz x).mag.length cm,.slice ao no co] 49)):=Ext.alloc (Ext.refl W) _
  have hxr:=Ext.refl (W.alloc (.cells #[.bool (cz x).neg,.slice am (cz x).mag.length cm,.slice ao no co] 49))
  exact hK _ _ ((KeepsOthers.alloc _ _).from _) (fun k hk => Below.heap_alloc _ _ _ (by
   have h1:=hG.ex.size
   rcases hk with hk | hk <;> omega)) ⟨⟨ag,cg,hG.ext hxa⟩,Nat.lt_of_lt_of_le hwl hxa.size⟩ ⟨W.heap.size,_,_,hxr.new_cell rfl,hxr.new_cell rfl,hu,rfl⟩
 case body =>
  rintro l pre x a' W hl ⟨r,hr⟩ ⟨⟨ag,cg,hG⟩,hwl⟩ ⟨Bx,vm,vo,hb0,hb1,hu,rfl⟩ hlt
  have CG:=zll (S:=Old W) (.agg #[.bool (ofI (gcdL (toP ts) pre:Int)).neg,.slice ag (ofI (gcdL (toP ts) pre:Int)).mag.length cg]) (.agg #[.bool (cz x).neg,vm]) (ofI (gcdL (toP ts) pre:Int)) (cz x) W
   ⟨_,rfl,hG.u.to (Kept.refl _ _) (fun k hk => hk.2.1)⟩ ⟨_,rfl,hu.to (Kept.ext hG.ex HS.out) (fun k hk => Nat.lt_of_lt_of_le (HS.out k hk) hG.ex.size)⟩ (fun _ h => h) (HLN.out pre) (by obtain ⟨vm,vo,-,-,h1,-,-⟩:=HTV.out x; exact h1)
  rw [z1t,(show valI (cz x) = ((toP ts).getD x (0,[])).1 by obtain ⟨vm,vo,-,-,-,h1,-⟩:=HTV.out x; exact h1),show (Int.gcd (gcdL (toP ts) pre:Int) ((toP ts).getD x (0,[])).1:Nat) = gcdL (toP ts) (pre ++ [x]) by rw [zmv]; rfl] at CG
  have HCG:=hid CG
  have HGW:=hid hG
  obtain ⟨g0,hg0⟩:∃ g,g = (ofI (gcdL (toP ts) pre:Int)).neg:=⟨_,rfl⟩
  obtain ⟨n0,hn0⟩:∃ g,g = (ofI (gcdL (toP ts) pre:Int)).mag.length:=⟨_,rfl⟩
  have c0:=hG.c0
  have c1:=hG.c1
  rw [← hg0] at HCG c0
  rw [← hn0] at HCG c1
  obtain ⟨am,cm,rfl⟩:=hu.form
  clear CG hG hg0 hn0 hu
  gi_wp2_with (refine ⟨trivial,?_⟩; gi_at_call 103; refine (CallsIn.inRound l (callsIn_wide.2 HCG.out)).mono ?_; rintro e w5 ⟨v5,rfl,⟨vm5,rfl,hu5⟩,hx5⟩; have HX5:=hid hx5; have HU5:=hid hu5; have d0:=hx5.cell c0; have d1:=hx5.cell c1; have e0:=hx5.free (z08 c0) HGW.out.f0; have e1:=hx5.free (z08 c0) HGW.out.f1; obtain ⟨a5,k5,rfl⟩:=hu5.form; clear hu5 hx5)
  have HGP:=HGW.out.put HX5.out HU5.out
  exact ⟨(((KeepsOthers.of_ext HX5.out).trans (KeepsOthers.setCell _ _ _)).trans (KeepsOthers.setCell _ _ _)).from _,(Kept.ext HX5.out (fun k hk => by
    have h1:=HGW.out.ex.size
    rcases hk with hk | hk <;> omega)).trans (Kept.set2 (fun hk => by
    have h2:=HS1.out
    rcases hk with hk | hk <;> omega) _ _),⟨_,_,HGP⟩,by simp only [z06]; exact Nat.lt_of_lt_of_le hwl HX5.out.size⟩
 case done =>
  rintro D xs W hD rfl ⟨⟨ag,cg,hG⟩,hwl⟩ hK
  rw [HG.out] at hG
  have HGW:=hid hG
  have HKD:=hid hK
  have c0:=hG.c0
  have c1:=hG.c1
  have f0:=hG.f0
  have f1:=hG.f1
  have hK':=((KeepsOthers.setCell W ⟨w.heap.size,0,none⟩ (.bool (ofI (z1z (toP ts):Int)).neg)).trans (KeepsOthers.setCell _ ⟨w.heap.size,1,none⟩ (.slice ag (ofI (z1z (toP ts):Int)).mag.length cg))).same D _ hK rfl
  have HKE:=hid hK'
  clear hG hK hK'
  gi_wp2
  have t2:=z0v (.bool (ofI (z1z (toP ts):Int)).neg) (.slice ag (ofI (z1z (toP ts):Int)).mag.length cg) HGW.out.c0 HGW.out.c1
  have kp:=fun (a:Addr) (u:Value) (h:((W.setCell ⟨w.heap.size,0,none⟩ (.bool (ofI (z1z (toP ts):Int)).neg)).setCell ⟨w.heap.size,1,none⟩ (.slice ag (ofI (z1z (toP ts):Int)).mag.length cg)).cell? a = some u) => cell_kept h (grownBy_putObj' _ D (.deferred none)) (fun r e => by cases e; exact ⟨_,HKE.out,rfl⟩)
  refine ⟨by simp,.inl ⟨_,_,rfl,run_takeDeferred HKE.out,?_⟩⟩
  have k0:=kp _ _ t2.1
  have k1:=kp _ _ t2.2
  refine ⟨.agg #[.bool (ofI (z1z (toP ts):Int)).neg,.slice ag (ofI (z1z (toP ts):Int)).mag.length cg],by simp [results,Tryz.f67,go_sem,k0,k1],_,rfl,⟨_,rfl,?_⟩,?_⟩
  ·refine (zb1 (zqh HGW.out.u (fun e => e.2.2 rfl) (.bool (ofI (z1z (toP ts):Int)).neg) (.slice ag (ofI (z1z (toP ts):Int)).mag.length cg)) kp).to (Kept.refl _ _) (fun k hk => ⟨hk.1,?_⟩)
   have h1:=hk.2.1
   simpa using h1
  ·exact Below.trans (HGW.out.ex.set2 (Nat.le_refl _) (.bool (ofI (z1z (toP ts):Int)).neg) (.slice ag (ofI (z1z (toP ts):Int)).mag.length cg)) (belowK_b (w:=w) (Nat.le_refl _) _ D _ _ (by have h1:=HXL.out.size; omega) HKE.out rfl rfl)
 case stop =>
  rintro D c pre W _ _ h _
  exact h.elim
end
section
open Go.RowKit
def sgC (p:PZ):Int:=match p with
 | [] => 0
 | t :: _ => if t.1 < 0 then -(z1z p:Int) else (z1z p:Int)
def z0l (p:PZ):PZ:=p.map fun t => (t.1 / sgC p,t.2)
theorem zc3 {p:PZ} {t:Int × Mono} (h:t ∈ p):(z1z p:Int) ∣ t.1:=by
 induction p with
 | nil => cases h
 | cons u r ih =>
  have e:z1z (u :: r) = Nat.gcd (z1z r) u.1.natAbs:=rfl
  rw [e]
  rcases List.mem_cons.1 h with rfl | h
  ·exact Int.dvd_natAbs.1 (Int.natCast_dvd_natCast.2 (Nat.gcd_dvd_right _ _))
  ·exact Int.dvd_trans (Int.natCast_dvd_natCast.2 (Nat.gcd_dvd_left _ _)) (ih h)
theorem zsi {p:PZ} (h:canP p) (h0:p ≠ []):z1z p ≠ 0:=by
 cases p with
 | nil => exact absurd rfl h0
 | cons t r =>
  intro e
  have h1:=(h.1 t (List.mem_cons_self ..)).1
  have h2:=zc3 (p:=t :: r) (List.mem_cons_self ..)
  rw [e] at h2
  exact h1 (Int.zero_dvd.1 h2)
theorem zft (p:PZ):(sgC p).natAbs = if p = [] then 0 else z1z p:=by
 cases p with
 | nil => rfl
 | cons t r =>
  rw [if_neg (by simp)]
  unfold sgC
  simp only
  split <;> simp
theorem zqq {p:PZ} (h:canP p) (h0:p ≠ []):sgC p ≠ 0:=by
 intro e
 have h1:=zft p
 rw [e,if_neg h0] at h1
 exact zsi h h0 h1.symm
theorem zmw {p:PZ} {t:Int × Mono} (h:t ∈ p):sgC p ∣ t.1:=by
 have h1:=zft p
 rw [if_neg (fun e => by rw [e] at h; cases h)] at h1
 refine Int.natAbs_dvd.1 ?_
 rw [h1]
 exact zc3 h
theorem z60 {p:PZ} {t:Int × Mono} (h:t ∈ p):t.1 / sgC p * sgC p = t.1:=Int.ediv_mul_cancel (zmw h)
theorem zmx {p:PZ} (h:canP p):canP (z0l p):=by
 refine ⟨fun t ht => ?_,?_⟩
 ·obtain ⟨u,hu,rfl⟩:=List.mem_map.1 ht
  refine ⟨fun e => (h.1 u hu).1 ?_,(h.1 u hu).2⟩
  have e':u.1 / sgC p = 0:=e
  rw [← z60 hu,e',Int.zero_mul]
 ·unfold z0l
  rw [List.pairwise_map]
  exact h.2
theorem zaa (p:PZ):(z0l p).length = p.length:=List.length_map ..
theorem Fit.whole {k n:Nat} {p:PZ} (h:Fit k n p):Fit k n (z0l p):=by
 refine ⟨zmx h.can,fun t ht => ?_,by rw [zaa]; exact h.2.2⟩
 obtain ⟨u,hu,rfl⟩:=List.mem_map.1 ht
 refine Nat.lt_of_le_of_lt ?_ (h.2.1 u hu)
 rw [Int.natAbs_ediv_of_dvd (zmw hu)]
 exact Nat.div_le_self _ _
def zfu (p:PZ):Bool:=match p with
 | [] => false
 | t :: _ => decide (t.1 < 0)
theorem zj8 {p:PZ} {k:Nat} {t:Int × Mono} (h:p[k]? = some t):ofP ((z0l p).take (k + 1)) = ofP ((z0l p).take k) ++ [⟨ofI (t.1 / sgC p),t.2⟩]:=by
 have h1:(z0l p)[k]? = some (t.1 / sgC p,t.2):=by
  unfold z0l
  rw [List.getElem?_map,h]
  rfl
 exact zqe h1
theorem z55 {W:World} {vp:Value} {p:PZ} {k n:Nat} (hp:z0h (Old W) W vp (ofP p)) (fp:Fit k n p) (hk:k ≤ 1000000) (hn:n ≤ 1000000000000) :
  Calls Tryz.prog 32 #[vp] W fun e w' => ∃ v',e = .returned (.tuple #[v',.int .i64 0]) ∧ z0h (New W w') w' v' (ofP (z0l p)) ∧ Ext W w':=by
 have hnot:∀ (x:Bool) (w:World),(Op.unary .not (.bool x)).run Tryz.prog w = .ok (.bool (!x)) w:=fun _ _ => rfl
 obtain ⟨j0,hj,jz0,jz1,jz2⟩:=info_parts Tryz.infoTerm
 have HP:=hid hp
 have HF:=hid fp
 have HLT:Hid (∀ t ∈ p,(ofI t.1).mag.length ≤ k):=hid (fun t ht => z38 (fp.2.1 t ht))
 have hL10:∀ t ∈ ofP p,t.c.mag.length ≤ 10000000000:=fun t ht => Nat.le_trans (fp.lens t ht) (by omega)
 have C1:=hid (zu9 hp fp hk)
 have C2:=hid (fun (Y:World) (hY:Ext W Y) => ze3 vp (ofP p) Y (z0h.on hp hY) (fun _ h => h) hL10 (zb9 fp.can))
 rw [z3x] at C2
 have hll:=hp.len_le
 obtain ⟨ap,cp,rfl⟩:=hp.form
 rw [z5v] at HP C1 C2 hll ⊢
 obtain ⟨np,hnp⟩:∃ m,m = p.length:=⟨_,rfl⟩
 rw [← hnp] at HP C1 C2 hll ⊢
 have HN:=hid hnp
 have HNB:Hid (np ≤ 1000000000000):=hid (by rw [hnp]; exact Nat.le_trans fp.2.2 hn)
 have HKB:=hid hk
 clear hp fp hk hn hnp hL10
 go_enter Tryz.func32,Tryz.ntmps32
 go_wp2_with fail
 with_reducible refine C1.out.mono ?_
 rintro e w1 ⟨rfl,hx1⟩
 have HX1:=hid hx1
 have C2':=hid (C2.out w1 hx1)
 clear hx1
 go_wp2_with fail
 with_reducible refine C2'.out.mono ?_
 rintro e w2 ⟨v2,rfl,⟨vm2,rfl,hu2⟩,hx2⟩
 have HX2:=hid (HX1.out.trans hx2)
 have HU2:=hid hu2
 have HX12:=hid hx2
 obtain ⟨a2,c2,rfl⟩:=hu2.form
 have HXA:=hid (HX2.out.trans (Ext.alloc (Ext.refl w2) (.cells #[.bool (ofI (z1z p:Int)).neg,.slice a2 (ofI (z1z p:Int)).mag.length c2] 26)))
 have HIA:Hid (IntAt W w2.heap.size (w2.alloc (.cells #[.bool (ofI (z1z p:Int)).neg,.slice a2 (ofI (z1z p:Int)).mag.length c2] 26)) (z1z p:Int) a2 c2):=hid (by
  have hr:=Ext.refl (w2.alloc (.cells #[.bool (ofI (z1z p:Int)).neg,.slice a2 (ofI (z1z p:Int)).mag.length c2] 26))
  have hA:Ext w2 (w2.alloc (.cells #[.bool (ofI (z1z p:Int)).neg,.slice a2 (ofI (z1z p:Int)).mag.length c2] 26)):=Ext.alloc (Ext.refl _) _
  exact ⟨hr.new_cell rfl,hr.new_cell rfl,hr.new_free 0,hr.new_free 1,HU2.out.to (Kept.ext hA New.lt) (fun i hi => ⟨Nat.le_trans HX1.out.size hi.1,Nat.lt_of_lt_of_le hi.2 hA.size,fun e => by have:=hi.2; omega⟩),HXA.out,HX2.out.size⟩)
 clear hu2 hx2 C1 C2 C2' HX12 HU2
 obtain ⟨bn,hbn⟩:∃ b:Bool,b = zfu p:=⟨_,rfl⟩
 have HSG:Hid ((bn = true → sgC p = -(z1z p:Int)) ∧ (bn = false → sgC p = (z1z p:Int))):=hid (by
  rw [hbn]
  unfold sgC zfu
  cases p with
  | nil => exact ⟨fun h => (by cases h),fun _ => rfl⟩
  | cons t r =>
   refine ⟨fun h => if_pos (of_decide_eq_true h),fun h => if_neg (of_decide_eq_false h)⟩)
 have HBN:=hid hbn
 have HCL:Hid ((ofI (z1z p:Int)).mag.length ≤ 10000000000):=hid (by
  by_cases h0:p = []
  ·rw [h0]
   decide
  ·obtain ⟨t,r,rfl⟩:=List.exists_cons_of_ne_nil h0
   refine Nat.le_trans (z1q ?_) (Nat.le_trans (HLT.out t (List.mem_cons_self ..)) (by have:=HKB.out; omega))
   have h1:=zc3 (p:=t :: r) (List.mem_cons_self ..)
   exact Nat.le_of_dvd (Int.natAbs_pos.2 (HF.out.can.1 t (List.mem_cons_self ..)).1) (Int.natAbs_dvd_natAbs.2 h1))
 clear hbn
 obtain ⟨w3,hw3⟩:∃ Y,Y = w2.alloc (.cells #[.bool (ofI (z1z p:Int)).neg,.slice a2 (ofI (z1z p:Int)).mag.length c2] 26):=⟨_,rfl⟩
 rw [← hw3] at HXA HIA
 go_upto_region 4 with fail
 rw [← hw3]
 clear hw3
 go_cut [24] (fun c wx => c = .bool bn ∧ Ext w3 wx)
 case first =>
  by_cases h0:p = []
  ·have hn0:np = 0:=by rw [HN.out,h0]; rfl
   have hb0:bn = false:=by rw [HBN.out,h0]; rfl
   subst hn0
   subst hb0
   clear h0
   go_wp2_with fail
   go_meet
   exact ⟨rfl,Ext.refl _⟩
  ·obtain ⟨t,r,hpt⟩:=List.exists_cons_of_ne_nil h0
   have hpos:(0:Int) < (np:Int):=by rw [HN.out,hpt,List.length_cons]; omega
   have ht0:(ofP p)[0]? = some ⟨ofI t.1,t.2⟩:=by rw [hpt]; rfl
   obtain ⟨b,off,vm,vo,rfl,-,hn1,hm1,-,h1,h2,h3,h4,-⟩:=(HP.out.on HXA.out).cellAt ht0
   have CS:=hid (z1l (S:=Old w3) (.agg #[.bool (ofI t.1).neg,vm]) (ofI t.1) w3 ⟨vm,rfl,h4⟩ (fun _ h => h) (Nat.le_trans (HLT.out t (by rw [hpt]; exact List.mem_cons_self ..)) (by have:=HKB.out; omega)))
   rw [z1t] at CS
   have hsg:decide (z18 t.1 < 0) = bn:=by
    rw [HBN.out,hpt]
    unfold z18 cmpI zfu
    by_cases hlt:t.1 < 0
    ·rw [if_pos hlt]
     simp [hlt]
    ·rw [if_neg hlt]
     split <;> simp [hlt]
   obtain ⟨sg,hsgv⟩:∃ z,z = z18 t.1:=⟨_,rfl⟩
   rw [← hsgv] at CS hsg
   obtain ⟨am,cm,rfl⟩:=h4.form
   obtain ⟨nz,hnz⟩:∃ z,z = (ofI t.1).mag.length:=⟨_,rfl⟩
   obtain ⟨bz,hbz⟩:∃ z,z = (ofI t.1).neg:=⟨_,rfl⟩
   simp only [Nat.zero_mul,Nat.add_zero] at h1 h2
   rw [← hnz] at CS h2
   rw [← hbz] at CS h1
   clear hpt ht0 h4 hsgv hnz hbz h0 h3
   go_wp2_with fail
   with_reducible refine CS.out.mono ?_
   rintro e w4 ⟨rfl,hx4⟩
   have HX4:=hid hx4
   clear hx4
   go_wp2_with fail
   go_meet
   exact ⟨by first | rfl | rw [hsg] | trivial,HX4.out⟩
 case rest =>
  obtain ⟨rfl,hxc⟩:=hcut
  have HXC:=hid hxc
  have HIC:=hid (HIA.out.ext hxc)
  clear hxc
  go_upto_if 24 with (fail)
  go_cut [] (fun wx => ∃ (a:Option Addr) (c:Nat),Hid (IntAt W w2.heap.size wx (sgC p) a c))
  case first =>
   have d0:=HIC.out.c0
   have d1:=HIC.out.c1
   have f0:=HIC.out.f0
   have f1:=HIC.out.f1
   have CN:=hid (zlm (S:=Old wc) (.agg #[.bool (ofI (z1z p:Int)).neg,.slice a2 (ofI (z1z p:Int)).mag.length c2]) (ofI (z1z p:Int)) wc ⟨_,rfl,HIC.out.u.to (Kept.refl _ _) (fun _ h => h.2.1)⟩ (fun _ h => h) (Nat.le_trans HCL.out (by decide)))
   rw [z1t] at CN
   cases bn with
   | true =>
    have HS:=hid (HSG.out.1 rfl)
    rw [← HS.out] at CN
    obtain ⟨nz,hnz⟩:∃ z,z = (ofI (z1z p:Int)).mag.length:=⟨_,rfl⟩
    obtain ⟨bz,hbz⟩:∃ z,z = (ofI (z1z p:Int)).neg:=⟨_,rfl⟩
    rw [← hnz] at CN d1
    rw [← hbz] at CN d0
    clear hnz hbz
    go_wp2_with fail
    with_reducible refine CN.out.mono ?_
    rintro e w5 ⟨v5,rfl,⟨vm5,rfl,hu5⟩,hx5⟩
    have HX5:=hid hx5
    have HU5:=hid hu5
    have k0:=hx5.cell d0
    have k1:=hx5.cell d1
    have e0:=hx5.free (z08 d0) f0
    have e1:=hx5.free (z08 d0) f1
    obtain ⟨a5,c5,rfl⟩:=hu5.form
    clear hx5 hu5
    go_wp2_with fail
    go_meet
    have q:=HIC.out.put HX5.out HU5.out
    exact ⟨_,_,hid q⟩
   | false =>
    have HS:=hid (HSG.out.2 rfl)
    go_wp2_with fail
    go_meet
    exact ⟨a2,c2,by rw [HS.out]; exact HIC⟩
  case rest =>
   obtain ⟨a4,c4,HI4⟩:=hcut
   have HSL:Hid ((ofI (sgC p)).mag.length ≤ 10000000000):=hid (by
    show (rep B32 (sgC p).natAbs).length ≤ _
    rw [zft]
    split
    ·decide
    ·have h:=HCL.out
     exact h)
   obtain ⟨w6,hw6⟩:∃ Y,Y = wc:=⟨_,rfl⟩
   rw [← hw6] at HI4 ⊢
   have HX6:=hid HI4.out.ex
   have HLT6:Hid (w2.heap.size < w6.heap.size):=hid (z08 HI4.out.c0)
   clear HIC HXC HIA HXA HX2 HX1 hw6 HCL HBN HSG
   go_wp2
   go_loopw [2,29] (fun o i wr => ∃ (j:Nat) (xs:List Value),j ≤ np ∧ i = .int .i64 (j:Nat) ∧ Ext w6 wr ∧ Hid (wr.ownsRow w6.heap.size 49 3 o j xs) ∧ Hid (z0r (z37 w6 wr o) wr xs (ofP ((z0l p).take j)))) (fun _ i _ => np - (intOf i).toNat)
   case atStart => exact ⟨0,[],Nat.zero_le _,rfl,Ext.refl _,World.ownsRow_nil _ _ _ _,rfl⟩
   case round =>
    obtain ⟨j,xs,hj',rfl,hx,HW,HY⟩:=hrel
    have HX:=hid hx
    by_cases hlt:j < np
    ·obtain ⟨t,ht⟩:=z00 (l:=p) (j:=j) (by rw [← HN.out]; exact hlt)
     have hto:(ofP p)[j]? = some ⟨ofI t.1,t.2⟩:=by
      unfold ofP
      rw [List.getElem?_map,ht]
      rfl
     have hmt:=List.mem_of_getElem? ht
     obtain ⟨b,off,vm,vo,rfl,-,hn1,hm1,hSb,h1,h2,h3,h4,h5⟩:=(HP.out.on (HX6.out.trans hx)).cellAt hto
     have HTK:=hid (zj8 ht)
     have HMT:=hid (HF.out.can.1 t hmt)
     have HTL:=hid (HLT.out t hmt)
     have HEQ:=hid (z60 hmt)
     have HNE:=hid (zqq HF.out.can (fun e => by rw [e] at hmt; cases hmt))
     obtain ⟨z,m⟩:=t
     simp only at h1 h2 h3 h4 h5 HTK HMT HTL HEQ
     have hxa:Ext wr (wr.alloc (.cells #[.bool (ofI z).neg,vm,vo] 49)):=Ext.alloc (Ext.refl wr) _
     obtain ⟨k0,k1,-,-,hu4,-,-⟩:=HI4.out.ext hx
     have CE:=hid (zf6 (S:=Old wr) (.agg #[.bool (ofI z).neg,vm]) (.agg #[.bool (ofI (sgC p)).neg,.slice a4 (ofI (sgC p)).mag.length c4]) (ofI z) (ofI (sgC p)) (wr.alloc (.cells #[.bool (ofI z).neg,vm,vo] 49)) ⟨vm,rfl,h4.ext hxa (fun _ h => h)⟩ ⟨_,rfl,(hu4.to (S':=Old wr) (Kept.refl _ _) (fun _ h => h.2.1)).ext hxa (fun _ h => h)⟩ (fun i hi => Nat.lt_of_lt_of_le hi hxa.size) (Nat.le_trans HTL.out (by have:=HKB.out; omega)) HSL.out (z / sgC p) (by rw [z1t]; exact HNE.out) (by rw [z1t,z1t]; exact HEQ.out.symm))
     obtain ⟨q,hq⟩:∃ q,q = z / sgC p:=⟨_,rfl⟩
     rw [← hq] at CE HTK
     have HPO:=hid h5
     have HXA:=hid hxa
     obtain ⟨am,cm,rfl⟩:=h4.form
     obtain ⟨ao,co,rfl⟩:=h5.form
     have k0':=HXA.out.cell k0
     have k1':=HXA.out.cell k1
     obtain ⟨nz,hnz⟩:∃ n,n = (ofI z).mag.length:=⟨_,rfl⟩
     obtain ⟨bz,hbz⟩:∃ n,n = (ofI z).neg:=⟨_,rfl⟩
     obtain ⟨nm,hnm⟩:∃ n,n = m.length:=⟨_,rfl⟩
     obtain ⟨ns,hns⟩:∃ n,n = (ofI (sgC p)).mag.length:=⟨_,rfl⟩
     obtain ⟨bs,hbs⟩:∃ n,n = (ofI (sgC p)).neg:=⟨_,rfl⟩
     rw [← hnz,← hbz,← hnm,← hns,← hbs] at CE
     rw [← hnz,← hbz,← hnm] at HXA
     rw [← hnz] at h2
     rw [← hbz] at h1
     rw [← hnm] at h3 HPO
     rw [← hnz,← hbz,← hnm,← hbs] at k0'
     rw [← hnz,← hbz,← hnm,← hns] at k1'
     clear ht hto hmt h4 h5 hxa hnz hbz hnm hns hbs hq hSb hu4 hx
     go_wp2_with fail
     with_reducible refine CE.out.mono ?_
     rintro e w7 ⟨v7,rfl,⟨vm7,rfl,hu7⟩,hx7⟩
     have HX7:=hid (HXA.out.trans hx7)
     have HX7':=hid hx7
     have HU7:=hid hu7
     have g2:=hx7.new_cell (i:=2) rfl
     obtain ⟨a7,c7,rfl⟩:=hu7.form
     obtain ⟨ng,hng⟩:∃ b,b = (ofI q).neg:=⟨_,rfl⟩
     obtain ⟨nl,hnl⟩:∃ b,b = (ofI q).mag.length:=⟨_,rfl⟩
     rw [← hng,← hnl]
     rw [← hnl] at HU7
     have HNG:=hid hng
     clear hx7 hu7 hng hnl h1 h2 h3 k0 k1 k0' k1' CE
     have HXB:=hid (Ext.alloc (Ext.refl w7) (.cells #[.bool ng,.slice a7 nl c7] 26))
     have HXD:=hid (show Ext wr (w7.alloc (.cells #[.bool ng,.slice a7 nl c7] 26)).drew from (HX7.out.trans HXB.out).drew)
     have S0:_ ∧ _ ∧ _:=And.intro ((Ext.drew (Ext.refl (w7.alloc (.cells #[.bool ng,.slice a7 nl c7] 26)))).new_cell (i:=0) rfl) (And.intro ((Ext.drew (Ext.refl (w7.alloc (.cells #[.bool ng,.slice a7 nl c7] 26)))).new_cell (i:=1) rfl) ((HXB.out.drew).cell g2))
     have HPD:=hid (HPO.out.ext HXD.out (fun _ h => h))
     have CCL:=hid (z7w (S:=Old wr) (.slice ao nm co) m (w7.alloc (.cells #[.bool ng,.slice a7 nl c7] 26)).drew HPD.out (fun i hi => Nat.lt_of_lt_of_le hi HXD.out.size) (Nat.le_trans (z68 HMT.out.2) (by decide)))
     have HWR:=hid (z0o HW.out HXD.out)
     have HYR:=hid (z11 HY.out HXD.out)
     have HB3:Hid (j + 1 ≤ maxLen):=hid (by have:=HNB.out; unfold maxLen; omega)
     have HB4:Hid ((j + 1) * 56 ≤ 140737488355328):=hid (by have:=HNB.out; omega)
     have HXDD:=hid (HX.out.trans HXD.out)
     have HKB':Hid (some w7.heap.size ≠ u2.ownBlock):=hid (fun e => by have h1:=(HW.out.lt _ e.symm).2; have h2:=HX7.out.size; omega)
     have HKG:Hid (some wr.heap.size ≠ u2.ownBlock):=hid (fun e => by have h1:=(HW.out.lt _ e.symm).2; omega)
     clear g2
     go_wp2_with fail
     go_region_held3 (fun Y => Y.cell? ⟨w7.heap.size,0,none⟩ = some (.bool ng) ∧ Y.cell? ⟨w7.heap.size,1,none⟩ = some (.slice a7 nl c7) ∧ Y.cell? ⟨wr.heap.size,2,none⟩ = some (.slice ao nm co)) (first | exact S0 | exact S7 | exact ⟨cell_old _ S7.1,cell_old _ S7.2.1,cell_old _ S7.2.2⟩ | exact S9)
      (first
       | (go_at_call 70; (with_reducible refine CCL.out.mono ?_); rintro e w8 ⟨v8,rfl,hp8,hx8⟩; have HX8:=hid hx8; have S7:_ ∧ _ ∧ _:=And.intro (hx8.cell S0.1) (And.intro (hx8.cell S0.2.1) (hx8.cell S0.2.2)); have HP8:=hid hp8; obtain ⟨a8,c8,rfl⟩:=hp8.form; obtain ⟨n8,hn8⟩:∃ n,n = m.length:=⟨_,rfl⟩; rw [← hn8]; rw [← hn8] at HP8
          have HW8:=hid (z0o (z0o HWR.out HX8.out) (Ext.alloc (Ext.refl w8) (.cells #[.bool ng,.slice a7 nl c7,.slice a8 n8 c8] 49))); have HY8:=hid (z11 (z11 HYR.out HX8.out) (Ext.alloc (Ext.refl w8) (.cells #[.bool ng,.slice a7 nl c7,.slice a8 n8 c8] 49))); have HSRC8:=hid (z82 w8 #[.bool ng,.slice a7 nl c7,.slice a8 n8 c8] 49 (z1x rfl rfl rfl) rfl); have HB5:=hid (Nat.le_trans (HXDD.out.trans HX8.out).size (World.grownBy_alloc w8 (.cells #[.bool ng,.slice a7 nl c7,.slice a8 n8 c8] 49) none).size); have HX28:=hid ((HXDD.out.trans HX8.out).alloc (.cells #[.bool ng,.slice a7 nl c7,.slice a8 n8 c8] 49)); have HC8:=hid (And.intro (cell_old (.cells #[.bool ng,.slice a7 nl c7,.slice a8 n8 c8] 49) S7.1) (And.intro (cell_old (.cells #[.bool ng,.slice a7 nl c7,.slice a8 n8 c8] 49) S7.2.1) (cell_old (.cells #[.bool ng,.slice a7 nl c7,.slice a8 n8 c8] 49) S7.2.2))); clear hx8 hp8 hn8)
       | (refine z1i rfl (.tmp 40) (.tmp 46) 23 rfl w6.heap.size 49 j0 (.agg #[.bool false,.slice none 0 0,.slice none 0 0]) 3 56 Tryz.underlying23 hj jz0 jz1 jz2 rfl (Nat.succ_pos _) _ j xs rfl HW8.out (some ⟨w8.heap.size,0,none⟩) 1 1 _ rfl HSRC8.out HB3.out HB4.out HB5.out ?_; intro v9 w9 hown hg hbk; have HW9:=hid hown; have HG9:=hid hg; have HBK:=hid hbk; have HX9:=hid (z1f HX28.out HW8.out hg); have S9:_ ∧ _ ∧ _:=And.intro (hg.cell HC8.out.1 HKB'.out) (And.intro (hg.cell HC8.out.2.1 HKB'.out) (hg.cell HC8.out.2.2 HKG.out)); clear hown hg hbk)
       | fail)
     all_goals
      go_wp2
      go_roundw
      case rel =>
       refine ⟨j + 1,xs ++ (#[.bool ng,.slice a7 nl c7,.slice a8 n8 c8]:Array Value).toList,by omega,by go_num,HX9.out,HW9.out,?_⟩
       show z0r _ _ _ _
       rw [HTK.out]
       have hone:z0r (z37 w6 (w8.alloc (.cells #[.bool ng,.slice a7 nl c7,.slice a8 n8 c8] 49)) u2) (w8.alloc (.cells #[.bool ng,.slice a7 nl c7,.slice a8 n8 c8] 49)) (#[.bool ng,.slice a7 nl c7,.slice a8 n8 c8]:Array Value).toList [⟨ofI q,m⟩]:=by
        rw [HNG.out]
        have hxs:=((HXB.out.drew).trans HX8.out).trans (Ext.alloc (Ext.refl w8) (.cells #[.bool ng,.slice a7 nl c7,.slice a8 n8 c8] 49))
        rw [HNG.out] at hxs
        refine z0r.single (t:=⟨ofI q,m⟩) (HU7.out.to (Kept.ext hxs New.lt) (fun i hi => ⟨⟨Nat.le_trans HX.out.size (Nat.le_trans HXA.out.size hi.1),Nat.lt_of_lt_of_le hi.2 hxs.size⟩,fun e => ?_⟩)) ((HP8.out.ext (Ext.alloc (Ext.refl w8) _) (fun i hi => hi.2)).to (Kept.refl _ _) (fun i hi => ⟨⟨Nat.le_trans HXDD.out.size hi.1,by rw [size_alloc]; have:=hi.2; omega⟩,fun e => ?_⟩))
        ·have h1:=(HW.out.lt _ e.symm).2
         have h2:=hi.1
         have h3:=HXA.out.size
         omega
        ·have h1:=(HW.out.lt _ e.symm).2
         have h2:=hi.1
         have h3:=HXD.out.size
         omega
       exact z3u (HY8.out.append hone) HG9.out HBK.out (Nat.le_refl _)
      case measure => simp only [intOf]; omega
    ·obtain rfl:j = np:=by omega
     go_wp2
     all_goals
      go_ret2
      refine ⟨_,rfl,?_,HX6.out.trans HX.out⟩
      have hc:=HY.out
      have ho:=HW.out
      rw [List.take_of_length_le (by rw [zaa,← HN.out]; exact Nat.le_refl _)] at hc
      have e:(ofP (z0l p)).length = j:=by rw [z5v,zaa]; exact HN.out.symm
      rw [← e] at ho
      exact z5s ho (hc.to (Kept.refl _ _) (fun _ h => ⟨Nat.le_trans HX6.out.size h.1.1,h.1.2⟩)) (fun i h1 h2 => ⟨Nat.le_trans HX6.out.size h1,h2⟩)
end
end Go.Proofs.YtbfflodidkfphaaGreat
