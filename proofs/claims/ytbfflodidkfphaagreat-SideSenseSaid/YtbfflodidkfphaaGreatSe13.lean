/- What a polynomial that is whole is told as: all rows of its points' names are tried. What a polynomial is told as, or that it is none. A document's small polynomial, below 0 too; what layer 28's law knows, plainly. Layer 28's law: a layout of three points; what is too great. A condition in a variable of its own. What layer 28's law knows. A polynomial times a number is told as the polynomial is. The polynomial that is told by a condition. What is told of a polynomial tells it; the document's content is the program's. What is told is nought just where its geometric value is. Plain. SideSense: the point out of the spots; rows of quotients and of spots. SideSense: a polynomial that the law takes, and that one made whole, are small enough to be put in. -/
import Derived.WalkMore
import Derived.Deep.RegionWith
import Derived.Deep.DeepCutAuto
import Derived.Deep.CutBlock
import Derived.Test.YtbfflodidkfphaaGreatSe12
set_option maxRecDepth 100000
set_option maxHeartbeats 16000000
namespace Go.Proofs.YtbfflodidkfphaaGreat
section
open Go.RowKit Go.Shelf
attribute [local go_sem] Oper.semAt_some
def hitP (x:Lay) (p:PZ) (wd:ByteArray) (row:List ByteArray):Bool:=decide ((z2h x wd row).1 = 0) && !(z2h x wd row).2.isEmpty && decide (z0l (z2h x wd row).2 = p)
def hitW (x:Lay) (p:PZ) (names:List ByteArray) (wd:ByteArray) (m:Nat):Option (List ByteArray):=((List.range (names.length ^ m)).find? fun k => hitP x p wd (rowK names m k)).map (rowK names m)
def z8s (x:Lay) (p:PZ) (names:List ByteArray):List (ByteArray × Nat) → Option (ByteArray × List ByteArray)
 | [] => none
 | (wd,m) :: r => match hitW x p names wd m with
  | some row => some (wd,row)
  | none => z8s x p names r
def z4r:List (ByteArray × Nat):=[(z0z,2),(z1a,3),(z1j,4),(wDot,4)]
def z1s (x:Lay) (p:PZ):SideD :=
 if (z0q x (ofP p)).length < 2 ∨ 6 < (z0q x (ofP p)).length then ⟨ByteArray.empty,[],ofP p⟩
 else match z8s x p (z0q x (ofP p)) z4r with
  | some (wd,row) => ⟨wd,row,ofP p⟩
  | none => ⟨ByteArray.empty,[],ofP p⟩
theorem z2t {x:Lay} {p:PZ} {names:List ByteArray} {wd:ByteArray} {m:Nat} (h:∀ j,j < names.length ^ m → hitP x p wd (rowK names m j) = false):hitW x p names wd m = none:=by
 unfold hitW
 rw [List.find?_eq_none.2 (fun k hk => by rw [h k (List.mem_range.1 hk)]; exact Bool.false_ne_true)]
 rfl
theorem z7r {x:Lay} {p:PZ} {names:List ByteArray} {wd:ByteArray} {m k:Nat} (hk:k < names.length ^ m) (h:∀ j,j < k → hitP x p wd (rowK names m j) = false) (h1:hitP x p wd (rowK names m k) = true):hitW x p names wd m = some (rowK names m k):=by
 unfold hitW
 have:(List.range (names.length ^ m)).find? (fun k => hitP x p wd (rowK names m k)) = some k:=by
  rw [List.find?_range_eq_some]
  exact ⟨h1,List.mem_range.2 hk,fun j hj => by simp [h j hj]⟩
 rw [this]
 rfl
theorem zc4 {x:Lay} {p:PZ} {wd:ByteArray} {row:List ByteArray} {er:Int} {q:PZ} (h:z2h x wd row = (er,q)) (he:er ≠ 0):hitP x p wd row = false:=by
 unfold hitP
 rw [h,decide_eq_false (by exact he)]; rfl
theorem zc5 {x:Lay} {p:PZ} {wd:ByteArray} {row:List ByteArray} {er:Int} (h:z2h x wd row = (er,[])):hitP x p wd row = false:=by
 unfold hitP
 rw [h]; simp
theorem z96 {x:Lay} {p:PZ} {wd:ByteArray} {row:List ByteArray} {q:PZ} (h:z2h x wd row = (0,q)) (hq:q ≠ []):hitP x p wd row = decide (z0l q = p):=by
 unfold hitP
 rw [h]
 cases q with
 | nil => exact absurd rfl hq
 | cons a r => simp
theorem z97 {x:Lay} {wd:ByteArray} {row:List ByteArray} {q:PZ} (hok:∀ c ∈ x.ats,Ok2 c) (h:z2h x wd row = (0,q)):Fit 10 8 q:=by
 unfold z2h at h
 split at h
 ·next n cs _ hp =>
  split at h
  ·obtain ⟨-,rfl⟩:(0:Int) = 0 ∧ z30 wd cs = q:=by simpa using h
   exact z4q wd (fun c hc => hok c (z3j hp c hc))
  ·cases h
 ·cases h
def zty (D:Nat):Deferred:={ target:=.collected D,args:=#[] }
theorem z8p {F:Fence} {n:Nat} {P:Program} {fn:Func} {tmps:Array Value} {R:Ending → World → Prop} {B:Nat}:∀ (Ds:List Nat) (Y:World),Ds.Nodup → (∀ D ∈ Ds,B ≤ D ∧ Y.heap[D]? = some (.deferred (some []))) →
  (∀ Y',Y.heap.size ≤ Y'.heap.size → Below B Y Y' → (∀ a u,Y.cell? a = some u → Y'.cell? a = some u) → LeavesIn F n P fn tmps R [] .returning Y') → LeavesInM F n P fn tmps R (Ds.map zty) .returning Y
 | [],Y,_,_,hR => hR Y (Nat.le_refl _) (Below.refl _ _) (fun _ _ h => h)
 | D :: r,Y,hn,hD,hR => by
  obtain ⟨h1,h2⟩:=hD D (by simp)
  have hnd:=List.nodup_cons.1 hn
  have hb:Below B Y (Y.putObj D (.deferred none)):=z5z h1 h2 _
  refine ⟨by simp,.inl ⟨D,_,rfl,run_takeDeferred h2,z8p r _ hnd.2 (fun E hE => ⟨(hD E (by simp [hE])).1,?_⟩) (fun Y' k1 k2 k3 => hR Y' (Nat.le_trans hb.size k1) (hb.trans k2) (fun a u h => k3 a u (cell_kept h (grownBy_putObj' _ D (.deferred none)) (fun r e => by cases e; exact ⟨_,h2,rfl⟩))))⟩⟩
  exact (World.putObj_heap_other (fun e => hnd.1 (by subst e; exact hE))).trans (hD E (by simp [hE])).2
theorem Strs.cellwise {S:Nat → Prop} {w w':World} {v:Value} {xs:List ByteArray} (h:Strs S w v xs) (hc:∀ b i u,S b → w.cell? ⟨b,i,none⟩ = some u → w'.cell? ⟨b,i,none⟩ = some u):Strs S w' v xs:=by
 obtain ⟨b,off,hs,hz⟩:=h
 exact ⟨b,off,hs,fun j z hj => hc _ _ _ (hs.in (z03 hj)) (hz j z hj)⟩
def IT (z:World) (x:Lay) (p:PZ) (wd:ByteArray) (names:List ByteArray) (m k:Nat) (Y:World):Prop:=Ext z Y ∧ ∀ j,j < k → hitP x p wd (rowK names m j) = false
theorem IT.on {z:World} {x:Lay} {p:PZ} {wd:ByteArray} {names:List ByteArray} {m:Nat}:∀ k A B,IT z x p wd names m k A → Below z.heap.size A B → IT z x p wd names m k B:=fun _ _ _ h hb => ⟨Below.trans h.1 hb,h.2⟩
def IxT (W z:World) (b5:Nat) (x:Lay) (p:PZ) (wd:ByteArray) (vp:Value) (names:List ByteArray) (m k:Nat) (Y:World):Prop :=
 ((∀ j,j < k → hitP x p wd (rowK names m j) = false) ∧ hitP x p wd (rowK names m k) = true) ∧ (∃ vr,Y.cell? ⟨b5,0,none⟩ = some (.string wd) ∧ Y.cell? ⟨b5,1,none⟩ = some vr ∧ Y.cell? ⟨b5,2,none⟩ = some vp ∧ Strs (New z Y) Y vr (rowK names m k)) ∧
  z.heap.size ≤ Y.heap.size ∧ W.heap.size ≤ z.heap.size ∧ Below W.heap.size z Y ∧ ∀ j,j < z.heap.size → j ≠ b5 → Y.heap[j]? = z.heap[j]?
theorem IxT.put {W z:World} {b5:Nat} {x:Lay} {p:PZ} {wd:ByteArray} {vp:Value} {names:List ByteArray} {m:Nat}:∀ k A l r o,IxT W z b5 x p wd vp names m k A → z.heap.size ≤ l → A.heap[l]? = some (.loop r) → IxT W z b5 x p wd vp names m k (A.putObj l o):=by
 rintro k A l r o ⟨h1,⟨vr,c0,c1,c2,hs⟩,h3,h6,h4,h5⟩ hl hr
 have kp:∀ a u,A.cell? a = some u → (A.putObj l o).cell? a = some u:=fun a u h => cell_kept h (grownBy_putObj' A l o) (fun r e => by cases e; exact ⟨_,hr,rfl⟩)
 have hsz:=(grownBy_putObj' A l o).size
 exact ⟨h1,⟨vr,kp _ _ c0,kp _ _ c1,kp _ _ c2,(hs.cellwise (fun b i u _ h => kp _ _ h)).to (Kept.refl _ _) (fun k hk => ⟨hk.1,Nat.lt_of_lt_of_le hk.2 hsz⟩)⟩,Nat.le_trans h3 hsz,h6,h4.trans (z5z (Nat.le_trans h6 hl) hr _),fun j hj hne => (World.putObj_heap_other (by omega)).trans (h5 j hj hne)⟩
def MK (b:Nat) (Ds:List Nat) (z:World):Prop:=Ds.Nodup ∧ ∀ D ∈ Ds,b < D ∧ z.heap[D]? = some (.deferred (some []))
theorem MK.stop {b D:Nat} {Ds:List Nat} {z Y:World} (h:MK b Ds z) (hkp:∀ j,j < z.heap.size → j ≠ b → Y.heap[j]? = z.heap[j]?) (hb:b < z.heap.size) (hD:z.heap.size ≤ D) (hd:Y.heap[D]? = some (.deferred (some []))):MK b (D :: Ds) Y:=by
 refine ⟨List.nodup_cons.2 ⟨fun hm => ?_,h.1⟩,fun E hE => ?_⟩
 ·have:=(Array.getElem?_eq_some_iff.1 (h.2 D hm).2).1
  omega
 ·rcases List.mem_cons.1 hE with rfl | hE
  ·exact ⟨by omega,hd⟩
  ·obtain ⟨h1,h2⟩:=h.2 E hE
   exact ⟨h1,(hkp E (Array.getElem?_eq_some_iff.1 h2).1 (by omega)).trans h2⟩
theorem MK.ext {b:Nat} {Ds:List Nat} {z y:World} (h:MK b Ds z) (hx:Ext z y):MK b Ds y:=⟨h.1,fun D hD => ⟨(h.2 D hD).1,(hx.block D (Array.getElem?_eq_some_iff.1 (h.2 D hD).2).1).trans (h.2 D hD).2⟩⟩
theorem MK.nil (b:Nat) (z:World):MK b [] z:=⟨List.nodup_nil,fun D h => by simp at h⟩
theorem z1d {S:Nat → Prop} {w w':World} (h:Kept S w w') {b i:Nat} (hb:S b):w'.frozen? ⟨b,i,none⟩ = w.frozen? ⟨b,i,none⟩:=by
 unfold World.frozen?
 rw [h b hb]
theorem z61 {x:Lay} {p:PZ} {wd:ByteArray} {row:List ByteArray} (hb:¬((z0q x (ofP p)).length < 2 ∨ 6 < (z0q x (ofP p)).length)) (h:z8s x p (z0q x (ofP p)) z4r = some (wd,row)):z1s x p = ⟨wd,row,ofP p⟩:=by
 unfold z1s
 rw [if_neg hb,h]
theorem ze4 {x:Lay} {p:PZ} (hb:¬((z0q x (ofP p)).length < 2 ∨ 6 < (z0q x (ofP p)).length)) (h:z8s x p (z0q x (ofP p)) z4r = none):z1s x p = ⟨ByteArray.empty,[],ofP p⟩:=by
 unfold z1s
 rw [if_neg hb,h]
theorem z3z {x:Lay} {p:PZ} {wd:ByteArray} {names:List ByteArray} {m k:Nat} (h:∀ j,j < k → hitP x p wd (rowK names m j) = false) (h1:hitP x p wd (rowK names m k) = false):∀ j,j < k + 1 → hitP x p wd (rowK names m j) = false:=fun j hj => by
 by_cases e:j = k
 ·rw [e]; exact h1
 ·exact h j (by omega)
theorem zha {W z Y:World} {b5:Nat} {x:Lay} {p:PZ} {wd:ByteArray} {vr vp u0 u1:Value} {names:List ByteArray} {m k:Nat} (hx:Ext z Y) (hW:W.heap.size ≤ z.heap.size) (hb:W.heap.size ≤ b5) (hb5:b5 < z.heap.size)
  (c0:Y.cell? ⟨b5,0,none⟩ = some u0) (c1:Y.cell? ⟨b5,1,none⟩ = some u1) (c2:Y.cell? ⟨b5,2,none⟩ = some vp) (hs:Strs (New z Y) Y vr (rowK names m k)) (hno:∀ j,j < k → hitP x p wd (rowK names m j) = false) (hh:hitP x p wd (rowK names m k) = true) :
  IxT W z b5 x p wd vp names m k ((Y.setCell ⟨b5,0,none⟩ (.string wd)).setCell ⟨b5,1,none⟩ vr):=by
 have hsz:((Y.setCell ⟨b5,0,none⟩ (.string wd)).setCell ⟨b5,1,none⟩ vr).heap.size = Y.heap.size:=by simp only [z06]
 refine ⟨⟨hno,hh⟩,⟨vr,z0b (z1c c0) (ao (by decide)),z1c (z0b c1 (ao (by decide))),z0b (z0b c2 (ao (by decide))) (ao (by decide)),?_⟩,by rw [hsz]; exact hx.size,hW,(hx.mono hW).trans (((Below.refl _ Y).setCell (p:=⟨b5,0,none⟩) hb _).setCell (p:=⟨b5,1,none⟩) hb _),fun j hj hne => ?_⟩
 ·refine (hs.cellwise (fun b i u hbb h => z0b (z0b h (ab ?_)) (ab ?_))).to (Kept.refl _ _) (fun k hk => ⟨hk.1,by rw [hsz]; exact hk.2⟩)
  ·have:=hbb.1; omega
  ·have:=hbb.1; omega
 ·exact ((Below.heap_setCell _ _ _ _ hne).trans (Below.heap_setCell _ _ _ _ hne)).trans (hx.block j hj)
theorem zhb {z:World} {names:List ByteArray} {m:Nat}:∀ k v A l r o,RxK z names m k v A → A.heap[l]? = some (.loop r) → RxK z names m k v (A.putObj l o):=by
 intro k v A l r o h hr
 have kp:∀ a u,A.cell? a = some u → (A.putObj l o).cell? a = some u:=fun a u h => cell_kept h (grownBy_putObj' A l o) (fun r e => by cases e; exact ⟨_,hr,rfl⟩)
 exact (Strs.cellwise h (fun b i u _ h => kp _ _ h)).to (Kept.refl _ _) (fun k hk => ⟨hk.1,Nat.lt_of_lt_of_le hk.2 (grownBy_putObj' A l o).size⟩)
theorem z5g {W Y:World} {tmps:Array Value} {wd:ByteArray} {vn vp:Value} {pts:List ByteArray} {p:PZ} {T:SideD} {b4:Nat} {u0 u1 u2:Value} {Ds:List Nat} (ht:tmps.getD 4 undef = .pointer (some ⟨b4,0,none⟩)) (hb:W.heap.size ≤ b4) (hx:Ext W Y)
  (c0:Y.cell? ⟨b4,0,none⟩ = some u0) (c1:Y.cell? ⟨b4,1,none⟩ = some u1) (c2:Y.cell? ⟨b4,2,none⟩ = some u2) (hS:Strs (fun k => W.heap.size ≤ k ∧ k < Y.heap.size ∧ k ≠ b4) Y vn pts) (hn:Ds.Nodup) (hD:∀ D ∈ Ds,W.heap.size ≤ D ∧ Y.heap[D]? = some (.deferred (some []))) (hT:T = ⟨wd,pts,ofP p⟩) :
  bodyPostM Fence.wide 9 Tryz.prog Tryz.f33 (fun e w' => ∃ vn',e = .returned (.agg #[.string T.word,vn',vp]) ∧ Strs (New W w') w' vn' T.pts ∧ Ext W w') .ret { tmps:=tmps,defers:=Ds.map zty } (((Y.setCell ⟨b4,0,none⟩ (.string wd)).setCell ⟨b4,1,none⟩ vn).setCell ⟨b4,2,none⟩ vp):=by
 subst hT
 obtain ⟨Y3,hY3⟩:∃ Z,Z = ((Y.setCell ⟨b4,0,none⟩ (.string wd)).setCell ⟨b4,1,none⟩ vn).setCell ⟨b4,2,none⟩ vp:=⟨_,rfl⟩
 have k0:Y3.cell? ⟨b4,0,none⟩ = some (.string wd):=by rw [hY3]; exact z0b (z0b (z1c c0) (ao (by decide))) (ao (by decide))
 have k1:Y3.cell? ⟨b4,1,none⟩ = some vn:=by rw [hY3]; exact z0b (z1c (z0b c1 (ao (by decide)))) (ao (by decide))
 have k2:Y3.cell? ⟨b4,2,none⟩ = some vp:=by rw [hY3]; exact z1c (z0b (z0b c2 (ao (by decide))) (ao (by decide)))
 have ko:∀ b i u,b ≠ b4 → Y.cell? ⟨b,i,none⟩ = some u → Y3.cell? ⟨b,i,none⟩ = some u:=fun b i u hb h => by
  rw [hY3]; exact z0b (z0b (z0b h (ab (fun e => hb e.symm))) (ab (fun e => hb e.symm))) (ab (fun e => hb e.symm))
 have hb3:Below W.heap.size Y Y3:=by rw [hY3]; exact (((Below.refl _ Y).setCell (p:=⟨b4,0,none⟩) hb _).setCell (p:=⟨b4,1,none⟩) hb _).setCell (p:=⟨b4,2,none⟩) hb _
 have hsz:Y3.heap.size = Y.heap.size:=by rw [hY3]; simp only [z06]
 have hd3:∀ D ∈ Ds,W.heap.size ≤ D ∧ Y3.heap[D]? = some (.deferred (some [])):=fun D h => ⟨(hD D h).1,by
  have h1:=(((KeepsOthers.setCell Y ⟨b4,0,none⟩ (.string wd)).trans (KeepsOthers.setCell _ ⟨b4,1,none⟩ vn)).trans (KeepsOthers.setCell _ ⟨b4,2,none⟩ vp)).same D _ (hD D h).2 rfl
  rw [hY3]; exact h1⟩
 rw [← hY3]
 refine z8p Ds Y3 hn hd3 (fun Y' q1 q2 q3 => ?_)
 have hxY:Ext W Y':=Below.trans (Below.trans hx hb3) q2
 refine ⟨.agg #[.string wd,vn,vp],?_,vn,rfl,?_,hxY⟩
 ·have m0:=q3 _ _ k0
  have m1:=q3 _ _ k1
  have m2:=q3 _ _ k2
  have ht2:tmps[4]?.getD undef = .pointer (some ⟨b4,0,none⟩):=by simpa using ht
  simp [results,Tryz.f33,go_sem,ht2,m0,m1,m2]
 ·refine (hS.cellwise (w':=Y') (fun b i u hbb h => q3 _ _ (ko b i u hbb.2.2 h))).to (Kept.refl _ _) (fun k hk => ⟨hk.1,?_⟩)
  have:=hk.2.1
  omega
theorem zmy {W:World} {v vp:Value} {x:Lay} {p:PZ} {kp np:Nat} (hx:LayV (Old W) W v x) (hok:∀ c ∈ x.ats,Ok2 c) (hp:z0h (Old W) W vp (ofP p)) (fp:Fit kp np p) (hkp:kp ≤ 1000000) (hnp:np ≤ 1000000000000) (hpl:x.pts.length ≤ 1000) (hal:x.ats.length ≤ 1000) :
  Calls Tryz.prog 33 #[v,vp] W fun e w' => ∃ vn,e = .returned (.agg #[.string (z1s x p).word,vn,vp]) ∧ Strs (New W w') w' vn (z1s x p).pts ∧ Ext W w':=by
 have HXL:=hid hx
 have HP:=hid hp
 have HFP:=hid fp
 have HOK:=hid hok
 obtain ⟨vq,va,rfl,hq,ha⟩:=hx
 obtain ⟨ap,cp,rfl⟩:=hq.form
 obtain ⟨aa,ca,rfl⟩:=ha.form
 obtain ⟨at_,ct,rfl⟩:=hp.form
 obtain ⟨nq,hnq⟩:∃ n,n = x.pts.length:=⟨_,rfl⟩
 obtain ⟨na,hna⟩:∃ n,n = x.ats.length:=⟨_,rfl⟩
 obtain ⟨nt,hnt⟩:∃ n,n = (ofP p).length:=⟨_,rfl⟩
 have CP:=hid (fun (Y:World) (hY:Ext W Y) => zfs (ts:=ofP p) (HXL.out.on hY) (HP.out.on hY) hpl hal)
 have HXL':=HXL
 rw [← hnq,← hna] at HXL' CP ⊢
 rw [← hnt] at HP CP ⊢
 obtain ⟨w0,hw0⟩:∃ Y,Y = (((W.alloc (.cells #[.slice ap nq cp,.slice aa na ca,.int .i64 x.par,.int .i64 x.vrs] 35)).alloc (.cells #[.slice at_ nt ct] 23)).alloc (.cells #[.string { data:=#[] },.slice none 0 0,.slice none 0 0] 40)).alloc (.cells #[.string { data:=#[] },.slice none 0 0,.slice at_ nt ct] 40):=⟨_,rfl⟩
 clear hp hq ha hnq hna hnt fp hok
 refine (callsIn_wide (n:=9)).1 ?_
 refine callsIn_of_wp_marks Tryz.func33 rfl trivial ?_ rfl
 simp only [Tryz.ntmps33,List.size_toArray,List.length_cons,List.length_nil,Nat.reduceAdd,Nat.reduceSub,Array.replicate_succ,Array.replicate_zero,List.push_toArray,List.append_toArray,List.nil_append,List.cons_append]
 gi_wp2
 refine wpIn_wide.2 ?_
 apply wp_scope_straight
 refine (wpIn_wide (n:=9)).1 ?_
 have HX0:Hid (Ext W w0):=hid (by rw [hw0]; exact (((Ext.alloc (Ext.refl _) _).alloc _).alloc _).alloc _)
 have CP0:=hid (CP.out w0 HX0.out)
 rw [hw0] at CP0
 have HB:=hid (fun (Y:World) (hY:Ext w0 Y) => by
  rw [hw0] at hY
  have k0:∀ (i:Nat) (u:Value),#[Value.slice ap nq cp,.slice aa na ca,.int .i64 x.par,.int .i64 x.vrs][i]? = some u → Y.cell? ⟨W.heap.size,i,none⟩ = some u:=fun i u hu => hY.cell (cell_old _ (cell_old _ (cell_old _ (z02 W _ _ rfl hu))))
  have k1:Y.cell? ⟨W.heap.size + 1,0,none⟩ = some (.slice at_ nt ct):=hY.cell (cell_old _ (cell_old _ (z02 _ _ _ (by rw [size_alloc]) rfl)))
  exact And.intro (And.intro (k0 0 _ rfl) (And.intro (k0 1 _ rfl) (And.intro (k0 2 _ rfl) (k0 3 _ rfl)))) k1)
 have HS:=hid (fun (Y:World) (hY:Ext w0 Y) => by
  rw [hw0] at hY
  have k2:∀ (i:Nat) (u:Value),#[Value.string { data:=#[] },.slice none 0 0,.slice none 0 0][i]? = some u → Y.cell? ⟨W.heap.size + 1 + 1,i,none⟩ = some u:=fun i u hu => hY.cell (cell_old _ (z02 _ _ _ (by rw [size_alloc,size_alloc]) hu))
  have k3:∀ (i:Nat) (u:Value),#[Value.string { data:=#[] },.slice none 0 0,.slice at_ nt ct][i]? = some u → Y.cell? ⟨W.heap.size + 1 + 1 + 1,i,none⟩ = some u:=fun i u hu => hY.cell (z02 _ _ _ (by rw [size_alloc,size_alloc,size_alloc]) hu)
  exact And.intro (And.intro (k2 0 _ rfl) (And.intro (k2 1 _ rfl) (k2 2 _ rfl))) (And.intro (k3 0 _ rfl) (And.intro (k3 1 _ rfl) (k3 2 _ rfl))))
 have HFZ:=hid (fun (Y:World) (hY:Ext w0 Y) => by
  rw [hw0] at hY
  have k2:∀ (i:Nat),Y.frozen? ⟨W.heap.size + 1 + 1,i,none⟩ = false:=fun i => hY.free (by simp only [size_alloc]; omega) (znf _ (by simp only [size_alloc]; omega) (by have:=z1n ((W.alloc (.cells #[.slice ap nq cp,.slice aa na ca,.int .i64 x.par,.int .i64 x.vrs] 35)).alloc (.cells #[.slice at_ nt ct] 23)) #[.string { data:=#[] },.slice none 0 0,.slice none 0 0] 40 (i:=i); rwa [size_alloc,size_alloc] at this))
  have k3:∀ (i:Nat),Y.frozen? ⟨W.heap.size + 1 + 1 + 1,i,none⟩ = false:=fun i => hY.free (by simp only [size_alloc]; omega) (by have:=z1n (((W.alloc (.cells #[.slice ap nq cp,.slice aa na ca,.int .i64 x.par,.int .i64 x.vrs] 35)).alloc (.cells #[.slice at_ nt ct] 23)).alloc (.cells #[.string { data:=#[] },.slice none 0 0,.slice none 0 0] 40)) #[.string { data:=#[] },.slice none 0 0,.slice at_ nt ct] 40 (i:=i); rwa [size_alloc,size_alloc,size_alloc] at this)
  exact And.intro (And.intro (k2 0) (And.intro (k2 1) (k2 2))) (And.intro (k3 0) (And.intro (k3 1) (k3 2))))
 have HSZ:Hid (W.heap.size + 1 + 1 + 1 < w0.heap.size):=hid (by rw [hw0]; simp only [size_alloc]; omega)
 have HW0:=hid hw0
 clear hw0
 obtain ⟨nn,hnn⟩:∃ n,n = (z0q x (ofP p)).length:=⟨_,rfl⟩
 have HNN:=hid hnn
 clear hnn
 by_cases hbad:nn < 2 ∨ 6 < nn
 ·have HT:Hid (z1s x p = ⟨ByteArray.empty,[],ofP p⟩):=hid (by unfold z1s; rw [← HNN.out,if_pos hbad])
  by_cases h2:nn < 2
  ·clear hbad
   gi_wp2_with (refine ⟨trivial,?_⟩; gi_at_call 71; refine (callsIn_wide.2 CP0.out).mono ?_; rintro e w1 ⟨v1,rfl,hn1,hx1⟩; rw [← HW0.out] at hx1; have HX1:=hid hx1; have HN1:=hid hn1; obtain ⟨a1,c1,e1⟩:=hn1.form; rw [← HNN.out] at e1; subst e1; obtain ⟨⟨s0,s1,s2⟩,t0,t1,t2⟩:=HS.out _ hx1; obtain ⟨⟨f0,f1,f2⟩,g0,g1,g2⟩:=HFZ.out _ hx1; clear hx1 hn1)
   exact z5g (Ds:=[]) rfl (by omega) (HX0.out.trans HX1.out) s0 s1 s2 ⟨0,0,⟨none,0,rfl,Nat.le_refl _,Nat.zero_le _,fun h => absurd h (by simp),fun h => absurd h (by simp)⟩,fun j x hj => by simp at hj⟩ List.nodup_nil (fun D h => by simp at h) HT.out
  ·have h6:6 < nn:=by omega
   have q1:decide ((nn:Int) < 2) = false:=decide_eq_false (by omega)
   have q2:decide (6 < (nn:Int)) = true:=decide_eq_true (by omega)
   clear hbad
   gi_wp2_with (refine ⟨trivial,?_⟩; gi_at_call 71; refine (callsIn_wide.2 CP0.out).mono ?_; rintro e w1 ⟨v1,rfl,hn1,hx1⟩; rw [← HW0.out] at hx1; have HX1:=hid hx1; have HN1:=hid hn1; obtain ⟨a1,c1,e1⟩:=hn1.form; rw [← HNN.out] at e1; subst e1; obtain ⟨⟨s0,s1,s2⟩,t0,t1,t2⟩:=HS.out _ hx1; obtain ⟨⟨f0,f1,f2⟩,g0,g1,g2⟩:=HFZ.out _ hx1; clear hx1 hn1)
   exact z5g (Ds:=[]) rfl (by omega) (HX0.out.trans HX1.out) s0 s1 s2 ⟨0,0,⟨none,0,rfl,Nat.le_refl _,Nat.zero_le _,fun h => absurd h (by simp),fun h => absurd h (by simp)⟩,fun j x hj => by simp at hj⟩ List.nodup_nil (fun D h => by simp at h) HT.out
 ·have h2:2 ≤ nn:=by omega
  have h6:nn ≤ 6:=by omega
  have q1:decide ((nn:Int) < 2) = false:=decide_eq_false (by omega)
  have q2:decide (6 < (nn:Int)) = false:=decide_eq_false (by omega)
  have HBD:=hid hbad
  clear hbad
  gi_wp2_with (refine ⟨trivial,?_⟩; gi_at_call 71; refine (callsIn_wide.2 CP0.out).mono ?_; rintro e w1 ⟨v1,rfl,hn1,hx1⟩; rw [← HW0.out] at hx1; have HX1:=hid hx1; have HN1:=hid hn1; obtain ⟨a1,c1,e1⟩:=hn1.form; rw [← HNN.out] at e1; subst e1; obtain ⟨⟨s0,s1,s2⟩,t0,t1,t2⟩:=HS.out _ hx1; obtain ⟨⟨f0,f1,f2⟩,g0,g1,g2⟩:=HFZ.out _ hx1; clear hx1 hn1)
  refine wpIn_label ?_
  gi_wp2
  obtain ⟨bw,hbw⟩:∃ b,b = w1.heap.size:=⟨_,rfl⟩
  obtain ⟨y0,hy0⟩:∃ Y,Y = w1.alloc (.cells #[.string { data:=#[117,110,108,105,107,101] },.string { data:=#[97,112,97,114,116] },.string { data:=#[99,114,111,115,115] },.string { data:=#[100,111,116] }] 9):=⟨_,rfl⟩
  have HY0:Hid (Ext w0 y0):=hid (by rw [hy0]; exact HX1.out.alloc _)
  have HY1:Hid (Ext w1 y0):=hid (by rw [hy0]; exact Ext.alloc (Ext.refl _) _)
  have HWD:=hid (fun (Y:World) (hY:Ext y0 Y) => by
   rw [hy0] at hY
   have k:∀ (i:Nat) (u:Value),#[Value.string { data:=#[117,110,108,105,107,101] },.string { data:=#[97,112,97,114,116] },.string { data:=#[99,114,111,115,115] },.string { data:=#[100,111,116] }][i]? = some u → Y.cell? ⟨bw,i,none⟩ = some u:=fun i u hu => hY.cell (z02 w1 _ _ hbw hu)
   exact And.intro (k 0 _ rfl) (And.intro (k 1 _ rfl) (And.intro (k 2 _ rfl) (k 3 _ rfl))))
  rw [← hy0]
  rw [← hbw]
  have HBW:=hid hbw
  have HE0:Hid (Ext y0 y0):=hid (Ext.refl _)
  have HM0:=hid (MK.nil (W.heap.size + 1 + 1 + 1) y0)
  clear hy0 hbw s0 s1 s2 t0 t1 t2 f0 f1 f2 g0 g1 g2
  refine wpIn_loop_rounds 5 ?_
  rw [roundsIn_succ]
  obtain ⟨d0,d1,d2,d3⟩:=HWD.out y0 HE0.out
  gi_wp2_with (refine ⟨trivial,?_⟩; gi_at_call 72; refine (callsIn_wide.2 (z95 _ _ _ _ _)).mono ?_; rintro e z1 ⟨rfl,hz⟩)
  rw [← hz]
  have HZ:Hid (Ext y0 z1):=hid (by rw [hz]; exact (((Ext.alloc (Ext.refl _) _).alloc _).alloc _).alloc _)
  have HZ0:=hid ((HY0.out.trans HE0.out).trans HZ.out)
  have hb8:z1.cell? ⟨y0.heap.size,0,none⟩ = some (.string { data:=#[117,110,108,105,107,101] }):=by rw [hz]; exact cell_old _ (cell_old _ (cell_old _ (z02 _ _ _ rfl rfl)))
  have hbn:z1.cell? ⟨y0.heap.size + 1 + 1,0,none⟩ = some (.slice a1 nn c1):=by rw [hz]; exact cell_old _ (z02 _ _ _ (by simp only [size_alloc]) rfl)
  have hbm:z1.cell? ⟨y0.heap.size + 1 + 1 + 1,0,none⟩ = some (.int .i64 ((2:Nat):Int)):=by rw [hz]; exact z02 _ _ _ (by simp only [size_alloc]) rfl
  have HB8:=hid hb8
  have HBN:=hid hbn
  have HBM:=hid hbm
  have hsz:z1.heap.size = y0.heap.size + 4:=by rw [hz]; simp only [size_alloc]
  have HSZ1:=hid hsz
  clear hz hb8 hbn hbm hsz d0 d1 d2 d3
  refine z7p (F:=Fence.wide) (n:=9) (w:=z1) (N:=(z0q x (ofP p)).length ^ 2) (Rx:=RxK z1 (z0q x (ofP p)) 2) rfl (by decide) (gf:=107) (lb:=#[.pointer (some ⟨y0.heap.size + 1 + 1 + 1,0,none⟩),.pointer (some ⟨y0.heap.size + 1 + 1,0,none⟩)]) rfl trivial (enters_of Tryz.func107 (by kernel_rfl) rfl)
   (z7q 8 (by decide) (by decide) (by decide) (by rw [← HNN.out]; omega) (by rw [← HNN.out]; omega) (HN1.out.to (Kept.ext ((HY1.out.trans HE0.out).trans HZ.out) New.lt) (fun k hk => Nat.lt_of_lt_of_le hk.2 ((HY1.out.trans HE0.out).trans HZ.out).size)) HBM.out HBN.out)
   zhb (IT z1 x p z0z (z0q x (ofP p)) 2) (IxT W z1 (W.heap.size + 1 + 1 + 1) x p z0z (.slice at_ nt ct) (z0q x (ofP p)) 2) (.exit 0) IT.on IxT.put ⟨Ext.refl _,fun j hj => absurd hj (Nat.not_lt_zero _)⟩
   (fun vr => { tmps:=#[.agg #[.slice ap nq cp,.slice aa na ca,.int .i64 x.par,.int .i64 x.vrs],.slice at_ nt ct,.pointer (some ⟨W.heap.size,0,none⟩),.pointer (some ⟨W.heap.size + 1,0,none⟩),.pointer (some ⟨W.heap.size + 1 + 1,0,none⟩),.pointer (some ⟨W.heap.size + 1 + 1 + 1,0,none⟩),.slice a1 nn c1,.int .i64 0,.pointer (some ⟨y0.heap.size,0,none⟩),vr,undef,undef,undef,undef,.slice at_ nt ct,.agg #[.string { data:=#[] },.slice none 0 0,.slice at_ nt ct],.agg #[.slice ap nq cp,.slice aa na ca,.int .i64 x.par,.int .i64 x.vrs],.slice at_ nt ct,.slice a1 nn c1,.slice a1 nn c1,.int .i64 (nn:Int),.bool false,.bool false,.slice a1 nn c1,.int .i64 (nn:Int),.bool false,.bool false,undef,.slice (some ⟨bw,0,none⟩) 4 4,.int .i64 4,.int .i64 0,.bool true,.int .i64 0,.pointer (some ⟨bw,0,none⟩),.string { data:=#[117,110,108,105,107,101] },.slice a1 nn c1,.slice (some ⟨y0.heap.size + 1,0,none⟩) 4 4,.int .i64 0,.pointer (some ⟨y0.heap.size + 1,0,none⟩),.int .i64 2,.func (.func 107) #[] #[.pointer (some ⟨y0.heap.size + 1 + 1 + 1,0,none⟩),.pointer (some ⟨y0.heap.size + 1 + 1,0,none⟩)],vr,undef,undef,undef,undef,undef,undef,undef,undef,undef,undef,undef,undef,undef,undef,undef,undef,undef,undef,undef,undef,undef,undef,undef,undef,undef,undef,undef,undef],defers:=[] }) ?assign1 ?body1 ?done1 ?stop1
  case assign1 =>
   intro l vr Y K hK
   gi_wp2
   exact hK
  case body1 =>
   rintro l k vr Y hk ⟨hYx,hno⟩ hrx
   have HYX:=hid hYx
   have HNO:=hid hno
   have HRX:=hid (show Strs (New z1 Y) Y vr (rowK (z0q x (ofP p)) 2 k) from hrx)
   have HKL:=hid hk
   have HYW:=hid (HZ0.out.trans hYx)
   obtain ⟨⟨e0,e1,e2,e3⟩,e4⟩:=HB.out Y HYW.out
   have e5:=hYx.cell HB8.out
   obtain ⟨row,hrow⟩:∃ r,r = rowK (z0q x (ofP p)) 2 k:=⟨_,rfl⟩
   have HRW:=hid hrow
   rw [← hrow] at HRX
   have hrl:row.length = 2:=by rw [hrow]; exact z3a _ _ _
   have HC:=hid (z3q (x:=x) (wd:=z0z) (names:=row) (HXL'.out.on (HX0.out.trans HYW.out)) HOK.out (HRX.out.to (Kept.refl _ _) New.lt) (by decide) (by omega))
   obtain ⟨er,q,hcq⟩:∃ er q,z2h x z0z row = (er,q):=⟨_,_,rfl⟩
   rw [hcq] at HC
   unfold z0z at HC
   obtain ⟨ql,hql⟩:∃ n,n = (ofP q).length:=⟨_,rfl⟩
   have HQL:=hid hql
   have HCQ:=hid hcq
   obtain ⟨ar,cr,hvr⟩:=HRX.out.form
   rw [hrl] at hvr
   subst hvr
   clear hYx hno hrx hk hcq hql
   by_cases he:er = 0
   ·subst he
    by_cases hq:q = []
    ·have hb:((ql:Int) == 0) = true:=by rw [HQL.out,hq]; rfl
     have HH:Hid (hitP x p z0z row = false):=hid (by have h:=HCQ.out; rw [hq] at h; exact zc5 h)
     clear hq
     gi_wp2_with (refine ⟨trivial,?_⟩; gi_at_call 53; refine (CallsIn.inRound l (callsIn_wide.2 HC.out)).mono ?_; rintro e w5 ⟨v5,rfl,hq5,hx5⟩; have HX5:=hid hx5; obtain ⟨aq,cq,e5⟩:=hq5.form; rw [← HQL.out] at e5; subst e5; clear hq5 hx5)
     exact ⟨HX5.out,HYX.out.trans HX5.out,z3z HNO.out (by rw [← HRW.out]; exact HH.out)⟩
    ·have hb:((ql:Int) == 0) = false:=by rw [beq_eq_false_iff_ne,HQL.out,z5v]; have:=List.length_pos_iff.2 hq; omega
     have HFQ:=hid (z97 HOK.out HCQ.out)
     have HH:=hid (z96 (p:=p) HCQ.out hq)
     obtain ⟨tt,htt⟩:∃ b,b = decide (z0l q = p):=⟨_,rfl⟩
     rw [← htt] at HH
     have HTT:=hid htt
     clear hq htt
     have C2:=hid (fun (Z:World) (u:Value) (hu:z0h (Old Z) Z u (ofP q)) => z55 hu HFQ.out (by decide) (by decide))
     have C3:=hid (fun (Z:World) (u:Value) (hZ:Ext W Z) (hu:z0h (Old Z) Z u (ofP (z0l q))) => zh0 hu (HP.out.on hZ))
     rw [← HTT.out] at C3
     have HBF:=hid (fun (Z:World) (hZ:Ext z1 Z) => And.intro (HB.out Z (HZ0.out.trans hZ)) (And.intro (hZ.cell HB8.out) (And.intro (HS.out Z (HZ0.out.trans hZ)).2 (HFZ.out Z (HZ0.out.trans hZ)).2)))
     cases tt with
     | false =>
      gi_wp2_with (first
       | (refine ⟨trivial,?_⟩; gi_at_call 53; refine (CallsIn.inRound l (callsIn_wide.2 HC.out)).mono ?_; rintro e w5 ⟨v5,rfl,hq5,hx5⟩; have HX5:=hid hx5; have HQ5:=hid hq5; obtain ⟨aq,cq,e5⟩:=hq5.form; rw [← HQL.out] at e5; subst e5; clear hq5 hx5)
       | (refine ⟨trivial,?_⟩; gi_at_call 32; refine (CallsIn.inRound l (callsIn_wide.2 (C2.out w5 _ (HQ5.out.to (Kept.refl _ _) New.lt)))).mono ?_; rintro e w6 ⟨v6,rfl,hq6,hx6⟩; have HX6:=hid (HX5.out.trans hx6); have HQ6:=hid hq6; obtain ⟨⟨-,e4⟩,-⟩:=HBF.out w6 (HYX.out.trans HX6.out); obtain ⟨a6,c6,rfl⟩:=hq6.form; clear hq6 hx6)
       | (refine ⟨trivial,?_⟩; gi_at_call 60; refine (CallsIn.inRound l (callsIn_wide.2 (C3.out w6 _ ((HX0.out.trans HYW.out).trans HX6.out) (HQ6.out.to (Kept.refl _ _) New.lt)))).mono ?_; rintro e w7 ⟨rfl,hx7⟩; have HX7:=hid (HX6.out.trans hx7); obtain ⟨-,e5,⟨t0,t1,t2⟩,g0,g1,g2⟩:=HBF.out w7 (HYX.out.trans HX7.out); clear hx7))
      exact ⟨HX7.out,HYX.out.trans HX7.out,z3z HNO.out (by rw [← HRW.out]; exact HH.out)⟩
     | true =>
      gi_wp2_with (first
       | (refine ⟨trivial,?_⟩; gi_at_call 53; refine (CallsIn.inRound l (callsIn_wide.2 HC.out)).mono ?_; rintro e w5 ⟨v5,rfl,hq5,hx5⟩; have HX5:=hid hx5; have HQ5:=hid hq5; obtain ⟨aq,cq,e5⟩:=hq5.form; rw [← HQL.out] at e5; subst e5; clear hq5 hx5)
       | (refine ⟨trivial,?_⟩; gi_at_call 32; refine (CallsIn.inRound l (callsIn_wide.2 (C2.out w5 _ (HQ5.out.to (Kept.refl _ _) New.lt)))).mono ?_; rintro e w6 ⟨v6,rfl,hq6,hx6⟩; have HX6:=hid (HX5.out.trans hx6); have HQ6:=hid hq6; obtain ⟨⟨-,e4⟩,-⟩:=HBF.out w6 (HYX.out.trans HX6.out); obtain ⟨a6,c6,rfl⟩:=hq6.form; clear hq6 hx6)
       | (refine ⟨trivial,?_⟩; gi_at_call 60; refine (CallsIn.inRound l (callsIn_wide.2 (C3.out w6 _ ((HX0.out.trans HYW.out).trans HX6.out) (HQ6.out.to (Kept.refl _ _) New.lt)))).mono ?_; rintro e w7 ⟨rfl,hx7⟩; have HX7:=hid (HX6.out.trans hx7); obtain ⟨-,e5,⟨t0,t1,t2⟩,g0,g1,g2⟩:=HBF.out w7 (HYX.out.trans HX7.out); clear hx7))
      have hsz7:W.heap.size + 1 + 1 + 1 < z1.heap.size:=by have h1:=HSZ.out; have h2:=HZ0.out.size; omega
      have hx7:=HYX.out.trans HX7.out
      have hst:Strs (New z1 w7) w7 (.slice ar 2 cr) row:=HRX.out.to (Kept.ext HX7.out New.lt) (fun k hk => ⟨hk.1,Nat.lt_of_lt_of_le hk.2 HX7.out.size⟩)
      have hW0:W.heap.size ≤ z1.heap.size:=by omega
      exact ⟨rfl,((KeepsOthers.of_ext HX7.out).trans ((KeepsOthers.setCell _ _ _).trans (KeepsOthers.setCell _ _ _))).from _,zha hx7 hW0 (by omega) (by omega) t0 t1 t2 (by rw [← HRW.out]; exact hst) HNO.out (by rw [← HRW.out]; exact HH.out)⟩
   ·have hb:((er:Int) != 0) = true:=by rw [bne_iff_ne]; exact he
    have HH:Hid (hitP x p z0z row = false):=hid (zc4 HCQ.out he)
    clear he
    gi_wp2_with (refine ⟨trivial,?_⟩; gi_at_call 53; refine (CallsIn.inRound l (callsIn_wide.2 HC.out)).mono ?_; rintro e w5 ⟨v5,rfl,hq5,hx5⟩; have HX5:=hid hx5; obtain ⟨aq,cq,e5⟩:=hq5.form; rw [← HQL.out] at e5; subst e5; clear hq5 hx5)
    exact ⟨HX5.out,HYX.out.trans HX5.out,z3z HNO.out (by rw [← HRW.out]; exact HH.out)⟩
  case stop1 =>
   rintro D k Y hD hk ⟨⟨hno,hh⟩,⟨vr,c0,c1,c2,hs⟩,hsz,hW,hbl,hkp⟩ hdd
   have hT:Hid (z1s x p = ⟨z0z,rowK (z0q x (ofP p)) 2 k,ofP p⟩):=hid (z61 (by rw [← HNN.out]; exact HBD.out) (by
    unfold z4r
    simp only [z8s,z7r hk hno hh]))
   obtain ⟨row,hrow⟩:∃ r,r = rowK (z0q x (ofP p)) 2 k:=⟨_,rfl⟩
   have hrl:row.length = 2:=by rw [hrow]; exact z3a _ _ _
   rw [← hrow] at hs hT
   have HT:=hid hT
   have hK:Kept (fun j => j < z1.heap.size ∧ j ≠ W.heap.size + 1 + 1 + 1) z1 Y:=fun j hj => hkp j hj.1 hj.2
   have hb4:W.heap.size + 1 + 1 < z1.heap.size ∧ W.heap.size + 1 + 1 ≠ W.heap.size + 1 + 1 + 1:=by have h1:=HSZ.out; have h2:=HZ0.out.size; omega
   obtain ⟨⟨s0,s1,s2⟩,-⟩:=HS.out z1 HZ0.out
   obtain ⟨⟨f0,f1,f2⟩,-⟩:=HFZ.out z1 HZ0.out
   have s0:=hK.cell hb4 s0
   have s1:=hK.cell hb4 s1
   have s2:=hK.cell hb4 s2
   have f0:=(z1d hK (i:=0) hb4).trans f0
   have f1:=(z1d hK (i:=1) hb4).trans f1
   have f2:=(z1d hK (i:=2) hb4).trans f2
   have HSR:=hid (show Strs (fun k => W.heap.size ≤ k ∧ k < Y.heap.size ∧ k ≠ W.heap.size + 1 + 1) Y vr row from hs.to (Kept.refl _ _) (fun k hk => ⟨by have h1:=hk.1; omega,hk.2,by have h1:=hk.1; have h2:=hb4.1; omega⟩))
   have HWY:Hid (Ext W Y):=hid (Below.trans (HX0.out.trans HZ0.out) hbl)
   have HMK:=hid ((HM0.out.ext HZ.out).stop hkp (by have h1:=HSZ.out; have h2:=HZ0.out.size; omega) hD hdd)
   obtain ⟨ar,cr,hvr⟩:=hs.form
   rw [hrl] at hvr
   subst hvr
   clear hno hh hs hsz hW hbl hkp hdd hD hk hT hrow hK hb4
   gi_wp2
   exact z5g (Ds:=[D]) rfl (by omega) HWY.out s0 s1 s2 HSR.out HMK.out.1 (fun E hE => ⟨by have h1:=(HMK.out.2 E hE).1; omega,(HMK.out.2 E hE).2⟩) HT.out
  rintro D1 y1 hD1 ⟨hYx,hno⟩ hdd1
  have HE1:=hid ((HE0.out.trans HZ.out).trans hYx)
  have HNO1:=hid hno
  have HM1:=hid ((HM0.out.ext HZ.out).stop (fun j hj _ => hYx.block j hj) (by have h1:=HSZ.out; have h2:=HZ0.out.size; omega) hD1 hdd1)
  clear hYx hno hD1 hdd1 HZ HZ0 HB8 HBN HBM HSZ1
  gi_wp2
  rw [roundsIn_succ]
  obtain ⟨d0,d1,d2,d3⟩:=HWD.out y1 HE1.out
  gi_wp2_with (refine ⟨trivial,?_⟩; gi_at_call 72; refine (callsIn_wide.2 (z95 _ _ _ _ _)).mono ?_; rintro e z2 ⟨rfl,hz⟩)
  rw [← hz]
  have HZ:Hid (Ext y1 z2):=hid (by rw [hz]; exact (((Ext.alloc (Ext.refl _) _).alloc _).alloc _).alloc _)
  have HZ0:=hid ((HY0.out.trans HE1.out).trans HZ.out)
  have hb8:z2.cell? ⟨y1.heap.size,0,none⟩ = some (.string { data:=#[97,112,97,114,116] }):=by rw [hz]; exact cell_old _ (cell_old _ (cell_old _ (z02 _ _ _ rfl rfl)))
  have hbn:z2.cell? ⟨y1.heap.size + 1 + 1,0,none⟩ = some (.slice a1 nn c1):=by rw [hz]; exact cell_old _ (z02 _ _ _ (by simp only [size_alloc]) rfl)
  have hbm:z2.cell? ⟨y1.heap.size + 1 + 1 + 1,0,none⟩ = some (.int .i64 ((3:Nat):Int)):=by rw [hz]; exact z02 _ _ _ (by simp only [size_alloc]) rfl
  have HB8:=hid hb8
  have HBN:=hid hbn
  have HBM:=hid hbm
  have hsz:z2.heap.size = y1.heap.size + 4:=by rw [hz]; simp only [size_alloc]
  have HSZ1:=hid hsz
  clear hz hb8 hbn hbm hsz d0 d1 d2 d3
  refine z7p (F:=Fence.wide) (n:=9) (w:=z2) (N:=(z0q x (ofP p)).length ^ 3) (Rx:=RxK z2 (z0q x (ofP p)) 3) rfl (by decide) (gf:=107) (lb:=#[.pointer (some ⟨y1.heap.size + 1 + 1 + 1,0,none⟩),.pointer (some ⟨y1.heap.size + 1 + 1,0,none⟩)]) rfl trivial (enters_of Tryz.func107 (by kernel_rfl) rfl)
   (z7q 8 (by decide) (by decide) (by decide) (by rw [← HNN.out]; omega) (by rw [← HNN.out]; omega) (HN1.out.to (Kept.ext ((HY1.out.trans HE1.out).trans HZ.out) New.lt) (fun k hk => Nat.lt_of_lt_of_le hk.2 ((HY1.out.trans HE1.out).trans HZ.out).size)) HBM.out HBN.out)
   zhb (IT z2 x p z1a (z0q x (ofP p)) 3) (IxT W z2 (W.heap.size + 1 + 1 + 1) x p z1a (.slice at_ nt ct) (z0q x (ofP p)) 3) (.exit 0) IT.on IxT.put ⟨Ext.refl _,fun j hj => absurd hj (Nat.not_lt_zero _)⟩
   (fun vr => { tmps:=#[.agg #[.slice ap nq cp,.slice aa na ca,.int .i64 x.par,.int .i64 x.vrs],.slice at_ nt ct,.pointer (some ⟨W.heap.size,0,none⟩),.pointer (some ⟨W.heap.size + 1,0,none⟩),.pointer (some ⟨W.heap.size + 1 + 1,0,none⟩),.pointer (some ⟨W.heap.size + 1 + 1 + 1,0,none⟩),.slice a1 nn c1,.int .i64 1,.pointer (some ⟨y1.heap.size,0,none⟩),vr,undef,undef,undef,undef,.slice at_ nt ct,.agg #[.string { data:=#[] },.slice none 0 0,.slice at_ nt ct],.agg #[.slice ap nq cp,.slice aa na ca,.int .i64 x.par,.int .i64 x.vrs],.slice at_ nt ct,.slice a1 nn c1,.slice a1 nn c1,.int .i64 (nn:Int),.bool false,.bool false,.slice a1 nn c1,.int .i64 (nn:Int),.bool false,.bool false,undef,.slice (some ⟨bw,0,none⟩) 4 4,.int .i64 4,.int .i64 1,.bool true,.int .i64 1,.pointer (some ⟨bw,1,none⟩),.string { data:=#[97,112,97,114,116] },.slice a1 nn c1,.slice (some ⟨y1.heap.size + 1,0,none⟩) 4 4,.int .i64 1,.pointer (some ⟨y1.heap.size + 1,1,none⟩),.int .i64 3,.func (.func 107) #[] #[.pointer (some ⟨y1.heap.size + 1 + 1 + 1,0,none⟩),.pointer (some ⟨y1.heap.size + 1 + 1,0,none⟩)],vr,undef,undef,undef,undef,undef,undef,undef,undef,undef,undef,undef,undef,undef,undef,undef,undef,undef,undef,undef,undef,undef,undef,undef,undef,undef,undef,.int .i64 1,undef],defers:=[] }) ?assign2 ?body2 ?done2 ?stop2
  case assign2 =>
   intro l vr Y K hK
   gi_wp2
   exact hK
  case body2 =>
   rintro l k vr Y hk ⟨hYx,hno⟩ hrx
   have HYX:=hid hYx
   have HNO:=hid hno
   have HRX:=hid (show Strs (New z2 Y) Y vr (rowK (z0q x (ofP p)) 3 k) from hrx)
   have HKL:=hid hk
   have HYW:=hid (HZ0.out.trans hYx)
   obtain ⟨⟨e0,e1,e2,e3⟩,e4⟩:=HB.out Y HYW.out
   have e5:=hYx.cell HB8.out
   obtain ⟨row,hrow⟩:∃ r,r = rowK (z0q x (ofP p)) 3 k:=⟨_,rfl⟩
   have HRW:=hid hrow
   rw [← hrow] at HRX
   have hrl:row.length = 3:=by rw [hrow]; exact z3a _ _ _
   have HC:=hid (z3q (x:=x) (wd:=z1a) (names:=row) (HXL'.out.on (HX0.out.trans HYW.out)) HOK.out (HRX.out.to (Kept.refl _ _) New.lt) (by decide) (by omega))
   obtain ⟨er,q,hcq⟩:∃ er q,z2h x z1a row = (er,q):=⟨_,_,rfl⟩
   rw [hcq] at HC
   unfold z1a at HC
   obtain ⟨ql,hql⟩:∃ n,n = (ofP q).length:=⟨_,rfl⟩
   have HQL:=hid hql
   have HCQ:=hid hcq
   obtain ⟨ar,cr,hvr⟩:=HRX.out.form
   rw [hrl] at hvr
   subst hvr
   clear hYx hno hrx hk hcq hql
   by_cases he:er = 0
   ·subst he
    by_cases hq:q = []
    ·have hb:((ql:Int) == 0) = true:=by rw [HQL.out,hq]; rfl
     have HH:Hid (hitP x p z1a row = false):=hid (by have h:=HCQ.out; rw [hq] at h; exact zc5 h)
     clear hq
     gi_wp2_with (refine ⟨trivial,?_⟩; gi_at_call 53; refine (CallsIn.inRound l (callsIn_wide.2 HC.out)).mono ?_; rintro e w5 ⟨v5,rfl,hq5,hx5⟩; have HX5:=hid hx5; obtain ⟨aq,cq,e5⟩:=hq5.form; rw [← HQL.out] at e5; subst e5; clear hq5 hx5)
     exact ⟨HX5.out,HYX.out.trans HX5.out,z3z HNO.out (by rw [← HRW.out]; exact HH.out)⟩
    ·have hb:((ql:Int) == 0) = false:=by rw [beq_eq_false_iff_ne,HQL.out,z5v]; have:=List.length_pos_iff.2 hq; omega
     have HFQ:=hid (z97 HOK.out HCQ.out)
     have HH:=hid (z96 (p:=p) HCQ.out hq)
     obtain ⟨tt,htt⟩:∃ b,b = decide (z0l q = p):=⟨_,rfl⟩
     rw [← htt] at HH
     have HTT:=hid htt
     clear hq htt
     have C2:=hid (fun (Z:World) (u:Value) (hu:z0h (Old Z) Z u (ofP q)) => z55 hu HFQ.out (by decide) (by decide))
     have C3:=hid (fun (Z:World) (u:Value) (hZ:Ext W Z) (hu:z0h (Old Z) Z u (ofP (z0l q))) => zh0 hu (HP.out.on hZ))
     rw [← HTT.out] at C3
     have HBF:=hid (fun (Z:World) (hZ:Ext z2 Z) => And.intro (HB.out Z (HZ0.out.trans hZ)) (And.intro (hZ.cell HB8.out) (And.intro (HS.out Z (HZ0.out.trans hZ)).2 (HFZ.out Z (HZ0.out.trans hZ)).2)))
     cases tt with
     | false =>
      gi_wp2_with (first
       | (refine ⟨trivial,?_⟩; gi_at_call 53; refine (CallsIn.inRound l (callsIn_wide.2 HC.out)).mono ?_; rintro e w5 ⟨v5,rfl,hq5,hx5⟩; have HX5:=hid hx5; have HQ5:=hid hq5; obtain ⟨aq,cq,e5⟩:=hq5.form; rw [← HQL.out] at e5; subst e5; clear hq5 hx5)
       | (refine ⟨trivial,?_⟩; gi_at_call 32; refine (CallsIn.inRound l (callsIn_wide.2 (C2.out w5 _ (HQ5.out.to (Kept.refl _ _) New.lt)))).mono ?_; rintro e w6 ⟨v6,rfl,hq6,hx6⟩; have HX6:=hid (HX5.out.trans hx6); have HQ6:=hid hq6; obtain ⟨⟨-,e4⟩,-⟩:=HBF.out w6 (HYX.out.trans HX6.out); obtain ⟨a6,c6,rfl⟩:=hq6.form; clear hq6 hx6)
       | (refine ⟨trivial,?_⟩; gi_at_call 60; refine (CallsIn.inRound l (callsIn_wide.2 (C3.out w6 _ ((HX0.out.trans HYW.out).trans HX6.out) (HQ6.out.to (Kept.refl _ _) New.lt)))).mono ?_; rintro e w7 ⟨rfl,hx7⟩; have HX7:=hid (HX6.out.trans hx7); obtain ⟨-,e5,⟨t0,t1,t2⟩,g0,g1,g2⟩:=HBF.out w7 (HYX.out.trans HX7.out); clear hx7))
      exact ⟨HX7.out,HYX.out.trans HX7.out,z3z HNO.out (by rw [← HRW.out]; exact HH.out)⟩
     | true =>
      gi_wp2_with (first
       | (refine ⟨trivial,?_⟩; gi_at_call 53; refine (CallsIn.inRound l (callsIn_wide.2 HC.out)).mono ?_; rintro e w5 ⟨v5,rfl,hq5,hx5⟩; have HX5:=hid hx5; have HQ5:=hid hq5; obtain ⟨aq,cq,e5⟩:=hq5.form; rw [← HQL.out] at e5; subst e5; clear hq5 hx5)
       | (refine ⟨trivial,?_⟩; gi_at_call 32; refine (CallsIn.inRound l (callsIn_wide.2 (C2.out w5 _ (HQ5.out.to (Kept.refl _ _) New.lt)))).mono ?_; rintro e w6 ⟨v6,rfl,hq6,hx6⟩; have HX6:=hid (HX5.out.trans hx6); have HQ6:=hid hq6; obtain ⟨⟨-,e4⟩,-⟩:=HBF.out w6 (HYX.out.trans HX6.out); obtain ⟨a6,c6,rfl⟩:=hq6.form; clear hq6 hx6)
       | (refine ⟨trivial,?_⟩; gi_at_call 60; refine (CallsIn.inRound l (callsIn_wide.2 (C3.out w6 _ ((HX0.out.trans HYW.out).trans HX6.out) (HQ6.out.to (Kept.refl _ _) New.lt)))).mono ?_; rintro e w7 ⟨rfl,hx7⟩; have HX7:=hid (HX6.out.trans hx7); obtain ⟨-,e5,⟨t0,t1,t2⟩,g0,g1,g2⟩:=HBF.out w7 (HYX.out.trans HX7.out); clear hx7))
      have hsz7:W.heap.size + 1 + 1 + 1 < z2.heap.size:=by have h1:=HSZ.out; have h2:=HZ0.out.size; omega
      have hx7:=HYX.out.trans HX7.out
      have hst:Strs (New z2 w7) w7 (.slice ar 3 cr) row:=HRX.out.to (Kept.ext HX7.out New.lt) (fun k hk => ⟨hk.1,Nat.lt_of_lt_of_le hk.2 HX7.out.size⟩)
      have hW0:W.heap.size ≤ z2.heap.size:=by omega
      exact ⟨rfl,((KeepsOthers.of_ext HX7.out).trans ((KeepsOthers.setCell _ _ _).trans (KeepsOthers.setCell _ _ _))).from _,zha hx7 hW0 (by omega) (by omega) t0 t1 t2 (by rw [← HRW.out]; exact hst) HNO.out (by rw [← HRW.out]; exact HH.out)⟩
   ·have hb:((er:Int) != 0) = true:=by rw [bne_iff_ne]; exact he
    have HH:Hid (hitP x p z1a row = false):=hid (zc4 HCQ.out he)
    clear he
    gi_wp2_with (refine ⟨trivial,?_⟩; gi_at_call 53; refine (CallsIn.inRound l (callsIn_wide.2 HC.out)).mono ?_; rintro e w5 ⟨v5,rfl,hq5,hx5⟩; have HX5:=hid hx5; obtain ⟨aq,cq,e5⟩:=hq5.form; rw [← HQL.out] at e5; subst e5; clear hq5 hx5)
    exact ⟨HX5.out,HYX.out.trans HX5.out,z3z HNO.out (by rw [← HRW.out]; exact HH.out)⟩
  case stop2 =>
   rintro D k Y hD hk ⟨⟨hno,hh⟩,⟨vr,c0,c1,c2,hs⟩,hsz,hW,hbl,hkp⟩ hdd
   have hT:Hid (z1s x p = ⟨z1a,rowK (z0q x (ofP p)) 3 k,ofP p⟩):=hid (z61 (by rw [← HNN.out]; exact HBD.out) (by
    unfold z4r
    simp only [z8s,z2t HNO1.out,z7r hk hno hh]))
   obtain ⟨row,hrow⟩:∃ r,r = rowK (z0q x (ofP p)) 3 k:=⟨_,rfl⟩
   have hrl:row.length = 3:=by rw [hrow]; exact z3a _ _ _
   rw [← hrow] at hs hT
   have HT:=hid hT
   have hK:Kept (fun j => j < z2.heap.size ∧ j ≠ W.heap.size + 1 + 1 + 1) z2 Y:=fun j hj => hkp j hj.1 hj.2
   have hb4:W.heap.size + 1 + 1 < z2.heap.size ∧ W.heap.size + 1 + 1 ≠ W.heap.size + 1 + 1 + 1:=by have h1:=HSZ.out; have h2:=HZ0.out.size; omega
   obtain ⟨⟨s0,s1,s2⟩,-⟩:=HS.out z2 HZ0.out
   obtain ⟨⟨f0,f1,f2⟩,-⟩:=HFZ.out z2 HZ0.out
   have s0:=hK.cell hb4 s0
   have s1:=hK.cell hb4 s1
   have s2:=hK.cell hb4 s2
   have f0:=(z1d hK (i:=0) hb4).trans f0
   have f1:=(z1d hK (i:=1) hb4).trans f1
   have f2:=(z1d hK (i:=2) hb4).trans f2
   have HSR:=hid (show Strs (fun k => W.heap.size ≤ k ∧ k < Y.heap.size ∧ k ≠ W.heap.size + 1 + 1) Y vr row from hs.to (Kept.refl _ _) (fun k hk => ⟨by have h1:=hk.1; omega,hk.2,by have h1:=hk.1; have h2:=hb4.1; omega⟩))
   have HWY:Hid (Ext W Y):=hid (Below.trans (HX0.out.trans HZ0.out) hbl)
   have HMK:=hid ((HM1.out.ext HZ.out).stop hkp (by have h1:=HSZ.out; have h2:=HZ0.out.size; omega) hD hdd)
   obtain ⟨ar,cr,hvr⟩:=hs.form
   rw [hrl] at hvr
   subst hvr
   clear hno hh hs hsz hW hbl hkp hdd hD hk hT hrow hK hb4
   gi_wp2
   exact z5g (Ds:=[D,D1]) rfl (by omega) HWY.out s0 s1 s2 HSR.out HMK.out.1 (fun E hE => ⟨by have h1:=(HMK.out.2 E hE).1; omega,(HMK.out.2 E hE).2⟩) HT.out
  rintro D2 y2 hD2 ⟨hYx,hno⟩ hdd2
  have HE2:=hid ((HE1.out.trans HZ.out).trans hYx)
  have HNO2:=hid hno
  have HM2:=hid ((HM1.out.ext HZ.out).stop (fun j hj _ => hYx.block j hj) (by have h1:=HSZ.out; have h2:=HZ0.out.size; omega) hD2 hdd2)
  clear hYx hno hD2 hdd2 HZ HZ0 HB8 HBN HBM HSZ1
  gi_wp2
  rw [roundsIn_succ]
  obtain ⟨d0,d1,d2,d3⟩:=HWD.out y2 HE2.out
  gi_wp2_with (refine ⟨trivial,?_⟩; gi_at_call 72; refine (callsIn_wide.2 (z95 _ _ _ _ _)).mono ?_; rintro e z3 ⟨rfl,hz⟩)
  rw [← hz]
  have HZ:Hid (Ext y2 z3):=hid (by rw [hz]; exact (((Ext.alloc (Ext.refl _) _).alloc _).alloc _).alloc _)
  have HZ0:=hid ((HY0.out.trans HE2.out).trans HZ.out)
  have hb8:z3.cell? ⟨y2.heap.size,0,none⟩ = some (.string { data:=#[99,114,111,115,115] }):=by rw [hz]; exact cell_old _ (cell_old _ (cell_old _ (z02 _ _ _ rfl rfl)))
  have hbn:z3.cell? ⟨y2.heap.size + 1 + 1,0,none⟩ = some (.slice a1 nn c1):=by rw [hz]; exact cell_old _ (z02 _ _ _ (by simp only [size_alloc]) rfl)
  have hbm:z3.cell? ⟨y2.heap.size + 1 + 1 + 1,0,none⟩ = some (.int .i64 ((4:Nat):Int)):=by rw [hz]; exact z02 _ _ _ (by simp only [size_alloc]) rfl
  have HB8:=hid hb8
  have HBN:=hid hbn
  have HBM:=hid hbm
  have hsz:z3.heap.size = y2.heap.size + 4:=by rw [hz]; simp only [size_alloc]
  have HSZ1:=hid hsz
  clear hz hb8 hbn hbm hsz d0 d1 d2 d3
  refine z7p (F:=Fence.wide) (n:=9) (w:=z3) (N:=(z0q x (ofP p)).length ^ 4) (Rx:=RxK z3 (z0q x (ofP p)) 4) rfl (by decide) (gf:=107) (lb:=#[.pointer (some ⟨y2.heap.size + 1 + 1 + 1,0,none⟩),.pointer (some ⟨y2.heap.size + 1 + 1,0,none⟩)]) rfl trivial (enters_of Tryz.func107 (by kernel_rfl) rfl)
   (z7q 8 (by decide) (by decide) (by decide) (by rw [← HNN.out]; omega) (by rw [← HNN.out]; omega) (HN1.out.to (Kept.ext ((HY1.out.trans HE2.out).trans HZ.out) New.lt) (fun k hk => Nat.lt_of_lt_of_le hk.2 ((HY1.out.trans HE2.out).trans HZ.out).size)) HBM.out HBN.out)
   zhb (IT z3 x p z1j (z0q x (ofP p)) 4) (IxT W z3 (W.heap.size + 1 + 1 + 1) x p z1j (.slice at_ nt ct) (z0q x (ofP p)) 4) (.exit 0) IT.on IxT.put ⟨Ext.refl _,fun j hj => absurd hj (Nat.not_lt_zero _)⟩
   (fun vr => { tmps:=#[.agg #[.slice ap nq cp,.slice aa na ca,.int .i64 x.par,.int .i64 x.vrs],.slice at_ nt ct,.pointer (some ⟨W.heap.size,0,none⟩),.pointer (some ⟨W.heap.size + 1,0,none⟩),.pointer (some ⟨W.heap.size + 1 + 1,0,none⟩),.pointer (some ⟨W.heap.size + 1 + 1 + 1,0,none⟩),.slice a1 nn c1,.int .i64 2,.pointer (some ⟨y2.heap.size,0,none⟩),vr,undef,undef,undef,undef,.slice at_ nt ct,.agg #[.string { data:=#[] },.slice none 0 0,.slice at_ nt ct],.agg #[.slice ap nq cp,.slice aa na ca,.int .i64 x.par,.int .i64 x.vrs],.slice at_ nt ct,.slice a1 nn c1,.slice a1 nn c1,.int .i64 (nn:Int),.bool false,.bool false,.slice a1 nn c1,.int .i64 (nn:Int),.bool false,.bool false,undef,.slice (some ⟨bw,0,none⟩) 4 4,.int .i64 4,.int .i64 2,.bool true,.int .i64 2,.pointer (some ⟨bw,2,none⟩),.string { data:=#[99,114,111,115,115] },.slice a1 nn c1,.slice (some ⟨y2.heap.size + 1,0,none⟩) 4 4,.int .i64 2,.pointer (some ⟨y2.heap.size + 1,2,none⟩),.int .i64 4,.func (.func 107) #[] #[.pointer (some ⟨y2.heap.size + 1 + 1 + 1,0,none⟩),.pointer (some ⟨y2.heap.size + 1 + 1,0,none⟩)],vr,undef,undef,undef,undef,undef,undef,undef,undef,undef,undef,undef,undef,undef,undef,undef,undef,undef,undef,undef,undef,undef,undef,undef,undef,undef,undef,.int .i64 2,undef],defers:=[] }) ?assign3 ?body3 ?done3 ?stop3
  case assign3 =>
   intro l vr Y K hK
   gi_wp2
   exact hK
  case body3 =>
   rintro l k vr Y hk ⟨hYx,hno⟩ hrx
   have HYX:=hid hYx
   have HNO:=hid hno
   have HRX:=hid (show Strs (New z3 Y) Y vr (rowK (z0q x (ofP p)) 4 k) from hrx)
   have HKL:=hid hk
   have HYW:=hid (HZ0.out.trans hYx)
   obtain ⟨⟨e0,e1,e2,e3⟩,e4⟩:=HB.out Y HYW.out
   have e5:=hYx.cell HB8.out
   obtain ⟨row,hrow⟩:∃ r,r = rowK (z0q x (ofP p)) 4 k:=⟨_,rfl⟩
   have HRW:=hid hrow
   rw [← hrow] at HRX
   have hrl:row.length = 4:=by rw [hrow]; exact z3a _ _ _
   have HC:=hid (z3q (x:=x) (wd:=z1j) (names:=row) (HXL'.out.on (HX0.out.trans HYW.out)) HOK.out (HRX.out.to (Kept.refl _ _) New.lt) (by decide) (by omega))
   obtain ⟨er,q,hcq⟩:∃ er q,z2h x z1j row = (er,q):=⟨_,_,rfl⟩
   rw [hcq] at HC
   unfold z1j at HC
   obtain ⟨ql,hql⟩:∃ n,n = (ofP q).length:=⟨_,rfl⟩
   have HQL:=hid hql
   have HCQ:=hid hcq
   obtain ⟨ar,cr,hvr⟩:=HRX.out.form
   rw [hrl] at hvr
   subst hvr
   clear hYx hno hrx hk hcq hql
   by_cases he:er = 0
   ·subst he
    by_cases hq:q = []
    ·have hb:((ql:Int) == 0) = true:=by rw [HQL.out,hq]; rfl
     have HH:Hid (hitP x p z1j row = false):=hid (by have h:=HCQ.out; rw [hq] at h; exact zc5 h)
     clear hq
     gi_wp2_with (refine ⟨trivial,?_⟩; gi_at_call 53; refine (CallsIn.inRound l (callsIn_wide.2 HC.out)).mono ?_; rintro e w5 ⟨v5,rfl,hq5,hx5⟩; have HX5:=hid hx5; obtain ⟨aq,cq,e5⟩:=hq5.form; rw [← HQL.out] at e5; subst e5; clear hq5 hx5)
     exact ⟨HX5.out,HYX.out.trans HX5.out,z3z HNO.out (by rw [← HRW.out]; exact HH.out)⟩
    ·have hb:((ql:Int) == 0) = false:=by rw [beq_eq_false_iff_ne,HQL.out,z5v]; have:=List.length_pos_iff.2 hq; omega
     have HFQ:=hid (z97 HOK.out HCQ.out)
     have HH:=hid (z96 (p:=p) HCQ.out hq)
     obtain ⟨tt,htt⟩:∃ b,b = decide (z0l q = p):=⟨_,rfl⟩
     rw [← htt] at HH
     have HTT:=hid htt
     clear hq htt
     have C2:=hid (fun (Z:World) (u:Value) (hu:z0h (Old Z) Z u (ofP q)) => z55 hu HFQ.out (by decide) (by decide))
     have C3:=hid (fun (Z:World) (u:Value) (hZ:Ext W Z) (hu:z0h (Old Z) Z u (ofP (z0l q))) => zh0 hu (HP.out.on hZ))
     rw [← HTT.out] at C3
     have HBF:=hid (fun (Z:World) (hZ:Ext z3 Z) => And.intro (HB.out Z (HZ0.out.trans hZ)) (And.intro (hZ.cell HB8.out) (And.intro (HS.out Z (HZ0.out.trans hZ)).2 (HFZ.out Z (HZ0.out.trans hZ)).2)))
     cases tt with
     | false =>
      gi_wp2_with (first
       | (refine ⟨trivial,?_⟩; gi_at_call 53; refine (CallsIn.inRound l (callsIn_wide.2 HC.out)).mono ?_; rintro e w5 ⟨v5,rfl,hq5,hx5⟩; have HX5:=hid hx5; have HQ5:=hid hq5; obtain ⟨aq,cq,e5⟩:=hq5.form; rw [← HQL.out] at e5; subst e5; clear hq5 hx5)
       | (refine ⟨trivial,?_⟩; gi_at_call 32; refine (CallsIn.inRound l (callsIn_wide.2 (C2.out w5 _ (HQ5.out.to (Kept.refl _ _) New.lt)))).mono ?_; rintro e w6 ⟨v6,rfl,hq6,hx6⟩; have HX6:=hid (HX5.out.trans hx6); have HQ6:=hid hq6; obtain ⟨⟨-,e4⟩,-⟩:=HBF.out w6 (HYX.out.trans HX6.out); obtain ⟨a6,c6,rfl⟩:=hq6.form; clear hq6 hx6)
       | (refine ⟨trivial,?_⟩; gi_at_call 60; refine (CallsIn.inRound l (callsIn_wide.2 (C3.out w6 _ ((HX0.out.trans HYW.out).trans HX6.out) (HQ6.out.to (Kept.refl _ _) New.lt)))).mono ?_; rintro e w7 ⟨rfl,hx7⟩; have HX7:=hid (HX6.out.trans hx7); obtain ⟨-,e5,⟨t0,t1,t2⟩,g0,g1,g2⟩:=HBF.out w7 (HYX.out.trans HX7.out); clear hx7))
      exact ⟨HX7.out,HYX.out.trans HX7.out,z3z HNO.out (by rw [← HRW.out]; exact HH.out)⟩
     | true =>
      gi_wp2_with (first
       | (refine ⟨trivial,?_⟩; gi_at_call 53; refine (CallsIn.inRound l (callsIn_wide.2 HC.out)).mono ?_; rintro e w5 ⟨v5,rfl,hq5,hx5⟩; have HX5:=hid hx5; have HQ5:=hid hq5; obtain ⟨aq,cq,e5⟩:=hq5.form; rw [← HQL.out] at e5; subst e5; clear hq5 hx5)
       | (refine ⟨trivial,?_⟩; gi_at_call 32; refine (CallsIn.inRound l (callsIn_wide.2 (C2.out w5 _ (HQ5.out.to (Kept.refl _ _) New.lt)))).mono ?_; rintro e w6 ⟨v6,rfl,hq6,hx6⟩; have HX6:=hid (HX5.out.trans hx6); have HQ6:=hid hq6; obtain ⟨⟨-,e4⟩,-⟩:=HBF.out w6 (HYX.out.trans HX6.out); obtain ⟨a6,c6,rfl⟩:=hq6.form; clear hq6 hx6)
       | (refine ⟨trivial,?_⟩; gi_at_call 60; refine (CallsIn.inRound l (callsIn_wide.2 (C3.out w6 _ ((HX0.out.trans HYW.out).trans HX6.out) (HQ6.out.to (Kept.refl _ _) New.lt)))).mono ?_; rintro e w7 ⟨rfl,hx7⟩; have HX7:=hid (HX6.out.trans hx7); obtain ⟨-,e5,⟨t0,t1,t2⟩,g0,g1,g2⟩:=HBF.out w7 (HYX.out.trans HX7.out); clear hx7))
      have hsz7:W.heap.size + 1 + 1 + 1 < z3.heap.size:=by have h1:=HSZ.out; have h2:=HZ0.out.size; omega
      have hx7:=HYX.out.trans HX7.out
      have hst:Strs (New z3 w7) w7 (.slice ar 4 cr) row:=HRX.out.to (Kept.ext HX7.out New.lt) (fun k hk => ⟨hk.1,Nat.lt_of_lt_of_le hk.2 HX7.out.size⟩)
      have hW0:W.heap.size ≤ z3.heap.size:=by omega
      exact ⟨rfl,((KeepsOthers.of_ext HX7.out).trans ((KeepsOthers.setCell _ _ _).trans (KeepsOthers.setCell _ _ _))).from _,zha hx7 hW0 (by omega) (by omega) t0 t1 t2 (by rw [← HRW.out]; exact hst) HNO.out (by rw [← HRW.out]; exact HH.out)⟩
   ·have hb:((er:Int) != 0) = true:=by rw [bne_iff_ne]; exact he
    have HH:Hid (hitP x p z1j row = false):=hid (zc4 HCQ.out he)
    clear he
    gi_wp2_with (refine ⟨trivial,?_⟩; gi_at_call 53; refine (CallsIn.inRound l (callsIn_wide.2 HC.out)).mono ?_; rintro e w5 ⟨v5,rfl,hq5,hx5⟩; have HX5:=hid hx5; obtain ⟨aq,cq,e5⟩:=hq5.form; rw [← HQL.out] at e5; subst e5; clear hq5 hx5)
    exact ⟨HX5.out,HYX.out.trans HX5.out,z3z HNO.out (by rw [← HRW.out]; exact HH.out)⟩
  case stop3 =>
   rintro D k Y hD hk ⟨⟨hno,hh⟩,⟨vr,c0,c1,c2,hs⟩,hsz,hW,hbl,hkp⟩ hdd
   have hT:Hid (z1s x p = ⟨z1j,rowK (z0q x (ofP p)) 4 k,ofP p⟩):=hid (z61 (by rw [← HNN.out]; exact HBD.out) (by
    unfold z4r
    simp only [z8s,z2t HNO1.out,z2t HNO2.out,z7r hk hno hh]))
   obtain ⟨row,hrow⟩:∃ r,r = rowK (z0q x (ofP p)) 4 k:=⟨_,rfl⟩
   have hrl:row.length = 4:=by rw [hrow]; exact z3a _ _ _
   rw [← hrow] at hs hT
   have HT:=hid hT
   have hK:Kept (fun j => j < z3.heap.size ∧ j ≠ W.heap.size + 1 + 1 + 1) z3 Y:=fun j hj => hkp j hj.1 hj.2
   have hb4:W.heap.size + 1 + 1 < z3.heap.size ∧ W.heap.size + 1 + 1 ≠ W.heap.size + 1 + 1 + 1:=by have h1:=HSZ.out; have h2:=HZ0.out.size; omega
   obtain ⟨⟨s0,s1,s2⟩,-⟩:=HS.out z3 HZ0.out
   obtain ⟨⟨f0,f1,f2⟩,-⟩:=HFZ.out z3 HZ0.out
   have s0:=hK.cell hb4 s0
   have s1:=hK.cell hb4 s1
   have s2:=hK.cell hb4 s2
   have f0:=(z1d hK (i:=0) hb4).trans f0
   have f1:=(z1d hK (i:=1) hb4).trans f1
   have f2:=(z1d hK (i:=2) hb4).trans f2
   have HSR:=hid (show Strs (fun k => W.heap.size ≤ k ∧ k < Y.heap.size ∧ k ≠ W.heap.size + 1 + 1) Y vr row from hs.to (Kept.refl _ _) (fun k hk => ⟨by have h1:=hk.1; omega,hk.2,by have h1:=hk.1; have h2:=hb4.1; omega⟩))
   have HWY:Hid (Ext W Y):=hid (Below.trans (HX0.out.trans HZ0.out) hbl)
   have HMK:=hid ((HM2.out.ext HZ.out).stop hkp (by have h1:=HSZ.out; have h2:=HZ0.out.size; omega) hD hdd)
   obtain ⟨ar,cr,hvr⟩:=hs.form
   rw [hrl] at hvr
   subst hvr
   clear hno hh hs hsz hW hbl hkp hdd hD hk hT hrow hK hb4
   gi_wp2
   exact z5g (Ds:=[D,D2,D1]) rfl (by omega) HWY.out s0 s1 s2 HSR.out HMK.out.1 (fun E hE => ⟨by have h1:=(HMK.out.2 E hE).1; omega,(HMK.out.2 E hE).2⟩) HT.out
  rintro D3 y3 hD3 ⟨hYx,hno⟩ hdd3
  have HE3:=hid ((HE2.out.trans HZ.out).trans hYx)
  have HNO3:=hid hno
  have HM3:=hid ((HM2.out.ext HZ.out).stop (fun j hj _ => hYx.block j hj) (by have h1:=HSZ.out; have h2:=HZ0.out.size; omega) hD3 hdd3)
  clear hYx hno hD3 hdd3 HZ HZ0 HB8 HBN HBM HSZ1
  gi_wp2
  rw [roundsIn_succ]
  obtain ⟨d0,d1,d2,d3⟩:=HWD.out y3 HE3.out
  gi_wp2_with (refine ⟨trivial,?_⟩; gi_at_call 72; refine (callsIn_wide.2 (z95 _ _ _ _ _)).mono ?_; rintro e z4 ⟨rfl,hz⟩)
  rw [← hz]
  have HZ:Hid (Ext y3 z4):=hid (by rw [hz]; exact (((Ext.alloc (Ext.refl _) _).alloc _).alloc _).alloc _)
  have HZ0:=hid ((HY0.out.trans HE3.out).trans HZ.out)
  have hb8:z4.cell? ⟨y3.heap.size,0,none⟩ = some (.string { data:=#[100,111,116] }):=by rw [hz]; exact cell_old _ (cell_old _ (cell_old _ (z02 _ _ _ rfl rfl)))
  have hbn:z4.cell? ⟨y3.heap.size + 1 + 1,0,none⟩ = some (.slice a1 nn c1):=by rw [hz]; exact cell_old _ (z02 _ _ _ (by simp only [size_alloc]) rfl)
  have hbm:z4.cell? ⟨y3.heap.size + 1 + 1 + 1,0,none⟩ = some (.int .i64 ((4:Nat):Int)):=by rw [hz]; exact z02 _ _ _ (by simp only [size_alloc]) rfl
  have HB8:=hid hb8
  have HBN:=hid hbn
  have HBM:=hid hbm
  have hsz:z4.heap.size = y3.heap.size + 4:=by rw [hz]; simp only [size_alloc]
  have HSZ1:=hid hsz
  clear hz hb8 hbn hbm hsz d0 d1 d2 d3
  refine z7p (F:=Fence.wide) (n:=9) (w:=z4) (N:=(z0q x (ofP p)).length ^ 4) (Rx:=RxK z4 (z0q x (ofP p)) 4) rfl (by decide) (gf:=107) (lb:=#[.pointer (some ⟨y3.heap.size + 1 + 1 + 1,0,none⟩),.pointer (some ⟨y3.heap.size + 1 + 1,0,none⟩)]) rfl trivial (enters_of Tryz.func107 (by kernel_rfl) rfl)
   (z7q 8 (by decide) (by decide) (by decide) (by rw [← HNN.out]; omega) (by rw [← HNN.out]; omega) (HN1.out.to (Kept.ext ((HY1.out.trans HE3.out).trans HZ.out) New.lt) (fun k hk => Nat.lt_of_lt_of_le hk.2 ((HY1.out.trans HE3.out).trans HZ.out).size)) HBM.out HBN.out)
   zhb (IT z4 x p wDot (z0q x (ofP p)) 4) (IxT W z4 (W.heap.size + 1 + 1 + 1) x p wDot (.slice at_ nt ct) (z0q x (ofP p)) 4) (.exit 0) IT.on IxT.put ⟨Ext.refl _,fun j hj => absurd hj (Nat.not_lt_zero _)⟩
   (fun vr => { tmps:=#[.agg #[.slice ap nq cp,.slice aa na ca,.int .i64 x.par,.int .i64 x.vrs],.slice at_ nt ct,.pointer (some ⟨W.heap.size,0,none⟩),.pointer (some ⟨W.heap.size + 1,0,none⟩),.pointer (some ⟨W.heap.size + 1 + 1,0,none⟩),.pointer (some ⟨W.heap.size + 1 + 1 + 1,0,none⟩),.slice a1 nn c1,.int .i64 3,.pointer (some ⟨y3.heap.size,0,none⟩),vr,undef,undef,undef,undef,.slice at_ nt ct,.agg #[.string { data:=#[] },.slice none 0 0,.slice at_ nt ct],.agg #[.slice ap nq cp,.slice aa na ca,.int .i64 x.par,.int .i64 x.vrs],.slice at_ nt ct,.slice a1 nn c1,.slice a1 nn c1,.int .i64 (nn:Int),.bool false,.bool false,.slice a1 nn c1,.int .i64 (nn:Int),.bool false,.bool false,undef,.slice (some ⟨bw,0,none⟩) 4 4,.int .i64 4,.int .i64 3,.bool true,.int .i64 3,.pointer (some ⟨bw,3,none⟩),.string { data:=#[100,111,116] },.slice a1 nn c1,.slice (some ⟨y3.heap.size + 1,0,none⟩) 4 4,.int .i64 3,.pointer (some ⟨y3.heap.size + 1,3,none⟩),.int .i64 4,.func (.func 107) #[] #[.pointer (some ⟨y3.heap.size + 1 + 1 + 1,0,none⟩),.pointer (some ⟨y3.heap.size + 1 + 1,0,none⟩)],vr,undef,undef,undef,undef,undef,undef,undef,undef,undef,undef,undef,undef,undef,undef,undef,undef,undef,undef,undef,undef,undef,undef,undef,undef,undef,undef,.int .i64 3,undef],defers:=[] }) ?assign4 ?body4 ?done4 ?stop4
  case assign4 =>
   intro l vr Y K hK
   gi_wp2
   exact hK
  case body4 =>
   rintro l k vr Y hk ⟨hYx,hno⟩ hrx
   have HYX:=hid hYx
   have HNO:=hid hno
   have HRX:=hid (show Strs (New z4 Y) Y vr (rowK (z0q x (ofP p)) 4 k) from hrx)
   have HKL:=hid hk
   have HYW:=hid (HZ0.out.trans hYx)
   obtain ⟨⟨e0,e1,e2,e3⟩,e4⟩:=HB.out Y HYW.out
   have e5:=hYx.cell HB8.out
   obtain ⟨row,hrow⟩:∃ r,r = rowK (z0q x (ofP p)) 4 k:=⟨_,rfl⟩
   have HRW:=hid hrow
   rw [← hrow] at HRX
   have hrl:row.length = 4:=by rw [hrow]; exact z3a _ _ _
   have HC:=hid (z3q (x:=x) (wd:=wDot) (names:=row) (HXL'.out.on (HX0.out.trans HYW.out)) HOK.out (HRX.out.to (Kept.refl _ _) New.lt) (by decide) (by omega))
   obtain ⟨er,q,hcq⟩:∃ er q,z2h x wDot row = (er,q):=⟨_,_,rfl⟩
   rw [hcq] at HC
   unfold wDot at HC
   obtain ⟨ql,hql⟩:∃ n,n = (ofP q).length:=⟨_,rfl⟩
   have HQL:=hid hql
   have HCQ:=hid hcq
   obtain ⟨ar,cr,hvr⟩:=HRX.out.form
   rw [hrl] at hvr
   subst hvr
   clear hYx hno hrx hk hcq hql
   by_cases he:er = 0
   ·subst he
    by_cases hq:q = []
    ·have hb:((ql:Int) == 0) = true:=by rw [HQL.out,hq]; rfl
     have HH:Hid (hitP x p wDot row = false):=hid (by have h:=HCQ.out; rw [hq] at h; exact zc5 h)
     clear hq
     gi_wp2_with (refine ⟨trivial,?_⟩; gi_at_call 53; refine (CallsIn.inRound l (callsIn_wide.2 HC.out)).mono ?_; rintro e w5 ⟨v5,rfl,hq5,hx5⟩; have HX5:=hid hx5; obtain ⟨aq,cq,e5⟩:=hq5.form; rw [← HQL.out] at e5; subst e5; clear hq5 hx5)
     exact ⟨HX5.out,HYX.out.trans HX5.out,z3z HNO.out (by rw [← HRW.out]; exact HH.out)⟩
    ·have hb:((ql:Int) == 0) = false:=by rw [beq_eq_false_iff_ne,HQL.out,z5v]; have:=List.length_pos_iff.2 hq; omega
     have HFQ:=hid (z97 HOK.out HCQ.out)
     have HH:=hid (z96 (p:=p) HCQ.out hq)
     obtain ⟨tt,htt⟩:∃ b,b = decide (z0l q = p):=⟨_,rfl⟩
     rw [← htt] at HH
     have HTT:=hid htt
     clear hq htt
     have C2:=hid (fun (Z:World) (u:Value) (hu:z0h (Old Z) Z u (ofP q)) => z55 hu HFQ.out (by decide) (by decide))
     have C3:=hid (fun (Z:World) (u:Value) (hZ:Ext W Z) (hu:z0h (Old Z) Z u (ofP (z0l q))) => zh0 hu (HP.out.on hZ))
     rw [← HTT.out] at C3
     have HBF:=hid (fun (Z:World) (hZ:Ext z4 Z) => And.intro (HB.out Z (HZ0.out.trans hZ)) (And.intro (hZ.cell HB8.out) (And.intro (HS.out Z (HZ0.out.trans hZ)).2 (HFZ.out Z (HZ0.out.trans hZ)).2)))
     cases tt with
     | false =>
      gi_wp2_with (first
       | (refine ⟨trivial,?_⟩; gi_at_call 53; refine (CallsIn.inRound l (callsIn_wide.2 HC.out)).mono ?_; rintro e w5 ⟨v5,rfl,hq5,hx5⟩; have HX5:=hid hx5; have HQ5:=hid hq5; obtain ⟨aq,cq,e5⟩:=hq5.form; rw [← HQL.out] at e5; subst e5; clear hq5 hx5)
       | (refine ⟨trivial,?_⟩; gi_at_call 32; refine (CallsIn.inRound l (callsIn_wide.2 (C2.out w5 _ (HQ5.out.to (Kept.refl _ _) New.lt)))).mono ?_; rintro e w6 ⟨v6,rfl,hq6,hx6⟩; have HX6:=hid (HX5.out.trans hx6); have HQ6:=hid hq6; obtain ⟨⟨-,e4⟩,-⟩:=HBF.out w6 (HYX.out.trans HX6.out); obtain ⟨a6,c6,rfl⟩:=hq6.form; clear hq6 hx6)
       | (refine ⟨trivial,?_⟩; gi_at_call 60; refine (CallsIn.inRound l (callsIn_wide.2 (C3.out w6 _ ((HX0.out.trans HYW.out).trans HX6.out) (HQ6.out.to (Kept.refl _ _) New.lt)))).mono ?_; rintro e w7 ⟨rfl,hx7⟩; have HX7:=hid (HX6.out.trans hx7); obtain ⟨-,e5,⟨t0,t1,t2⟩,g0,g1,g2⟩:=HBF.out w7 (HYX.out.trans HX7.out); clear hx7))
      exact ⟨HX7.out,HYX.out.trans HX7.out,z3z HNO.out (by rw [← HRW.out]; exact HH.out)⟩
     | true =>
      gi_wp2_with (first
       | (refine ⟨trivial,?_⟩; gi_at_call 53; refine (CallsIn.inRound l (callsIn_wide.2 HC.out)).mono ?_; rintro e w5 ⟨v5,rfl,hq5,hx5⟩; have HX5:=hid hx5; have HQ5:=hid hq5; obtain ⟨aq,cq,e5⟩:=hq5.form; rw [← HQL.out] at e5; subst e5; clear hq5 hx5)
       | (refine ⟨trivial,?_⟩; gi_at_call 32; refine (CallsIn.inRound l (callsIn_wide.2 (C2.out w5 _ (HQ5.out.to (Kept.refl _ _) New.lt)))).mono ?_; rintro e w6 ⟨v6,rfl,hq6,hx6⟩; have HX6:=hid (HX5.out.trans hx6); have HQ6:=hid hq6; obtain ⟨⟨-,e4⟩,-⟩:=HBF.out w6 (HYX.out.trans HX6.out); obtain ⟨a6,c6,rfl⟩:=hq6.form; clear hq6 hx6)
       | (refine ⟨trivial,?_⟩; gi_at_call 60; refine (CallsIn.inRound l (callsIn_wide.2 (C3.out w6 _ ((HX0.out.trans HYW.out).trans HX6.out) (HQ6.out.to (Kept.refl _ _) New.lt)))).mono ?_; rintro e w7 ⟨rfl,hx7⟩; have HX7:=hid (HX6.out.trans hx7); obtain ⟨-,e5,⟨t0,t1,t2⟩,g0,g1,g2⟩:=HBF.out w7 (HYX.out.trans HX7.out); clear hx7))
      have hsz7:W.heap.size + 1 + 1 + 1 < z4.heap.size:=by have h1:=HSZ.out; have h2:=HZ0.out.size; omega
      have hx7:=HYX.out.trans HX7.out
      have hst:Strs (New z4 w7) w7 (.slice ar 4 cr) row:=HRX.out.to (Kept.ext HX7.out New.lt) (fun k hk => ⟨hk.1,Nat.lt_of_lt_of_le hk.2 HX7.out.size⟩)
      have hW0:W.heap.size ≤ z4.heap.size:=by omega
      exact ⟨rfl,((KeepsOthers.of_ext HX7.out).trans ((KeepsOthers.setCell _ _ _).trans (KeepsOthers.setCell _ _ _))).from _,zha hx7 hW0 (by omega) (by omega) t0 t1 t2 (by rw [← HRW.out]; exact hst) HNO.out (by rw [← HRW.out]; exact HH.out)⟩
   ·have hb:((er:Int) != 0) = true:=by rw [bne_iff_ne]; exact he
    have HH:Hid (hitP x p wDot row = false):=hid (zc4 HCQ.out he)
    clear he
    gi_wp2_with (refine ⟨trivial,?_⟩; gi_at_call 53; refine (CallsIn.inRound l (callsIn_wide.2 HC.out)).mono ?_; rintro e w5 ⟨v5,rfl,hq5,hx5⟩; have HX5:=hid hx5; obtain ⟨aq,cq,e5⟩:=hq5.form; rw [← HQL.out] at e5; subst e5; clear hq5 hx5)
    exact ⟨HX5.out,HYX.out.trans HX5.out,z3z HNO.out (by rw [← HRW.out]; exact HH.out)⟩
  case stop4 =>
   rintro D k Y hD hk ⟨⟨hno,hh⟩,⟨vr,c0,c1,c2,hs⟩,hsz,hW,hbl,hkp⟩ hdd
   have hT:Hid (z1s x p = ⟨wDot,rowK (z0q x (ofP p)) 4 k,ofP p⟩):=hid (z61 (by rw [← HNN.out]; exact HBD.out) (by
    unfold z4r
    simp only [z8s,z2t HNO1.out,z2t HNO2.out,z2t HNO3.out,z7r hk hno hh]))
   obtain ⟨row,hrow⟩:∃ r,r = rowK (z0q x (ofP p)) 4 k:=⟨_,rfl⟩
   have hrl:row.length = 4:=by rw [hrow]; exact z3a _ _ _
   rw [← hrow] at hs hT
   have HT:=hid hT
   have hK:Kept (fun j => j < z4.heap.size ∧ j ≠ W.heap.size + 1 + 1 + 1) z4 Y:=fun j hj => hkp j hj.1 hj.2
   have hb4:W.heap.size + 1 + 1 < z4.heap.size ∧ W.heap.size + 1 + 1 ≠ W.heap.size + 1 + 1 + 1:=by have h1:=HSZ.out; have h2:=HZ0.out.size; omega
   obtain ⟨⟨s0,s1,s2⟩,-⟩:=HS.out z4 HZ0.out
   obtain ⟨⟨f0,f1,f2⟩,-⟩:=HFZ.out z4 HZ0.out
   have s0:=hK.cell hb4 s0
   have s1:=hK.cell hb4 s1
   have s2:=hK.cell hb4 s2
   have f0:=(z1d hK (i:=0) hb4).trans f0
   have f1:=(z1d hK (i:=1) hb4).trans f1
   have f2:=(z1d hK (i:=2) hb4).trans f2
   have HSR:=hid (show Strs (fun k => W.heap.size ≤ k ∧ k < Y.heap.size ∧ k ≠ W.heap.size + 1 + 1) Y vr row from hs.to (Kept.refl _ _) (fun k hk => ⟨by have h1:=hk.1; omega,hk.2,by have h1:=hk.1; have h2:=hb4.1; omega⟩))
   have HWY:Hid (Ext W Y):=hid (Below.trans (HX0.out.trans HZ0.out) hbl)
   have HMK:=hid ((HM3.out.ext HZ.out).stop hkp (by have h1:=HSZ.out; have h2:=HZ0.out.size; omega) hD hdd)
   obtain ⟨ar,cr,hvr⟩:=hs.form
   rw [hrl] at hvr
   subst hvr
   clear hno hh hs hsz hW hbl hkp hdd hD hk hT hrow hK hb4
   gi_wp2
   exact z5g (Ds:=[D,D3,D2,D1]) rfl (by omega) HWY.out s0 s1 s2 HSR.out HMK.out.1 (fun E hE => ⟨by have h1:=(HMK.out.2 E hE).1; omega,(HMK.out.2 E hE).2⟩) HT.out
  rintro D4 y4 hD4 ⟨hYx,hno⟩ hdd4
  have HE4:=hid ((HE3.out.trans HZ.out).trans hYx)
  have HNO4:=hid hno
  have HM4:=hid ((HM3.out.ext HZ.out).stop (fun j hj _ => hYx.block j hj) (by have h1:=HSZ.out; have h2:=HZ0.out.size; omega) hD4 hdd4)
  clear hYx hno hD4 hdd4 HZ HZ0 HB8 HBN HBM HSZ1
  gi_wp2
  have HT:=hid (ze4 (x:=x) (p:=p) (by rw [← HNN.out]; exact HBD.out) (by
   unfold z4r
   simp only [z8s,z2t HNO1.out,z2t HNO2.out,z2t HNO3.out,z2t HNO4.out]))
  obtain ⟨⟨s0,s1,s2⟩,t0,t1,t2⟩:=HS.out y4 (HY0.out.trans HE4.out)
  obtain ⟨⟨f0,f1,f2⟩,-⟩:=HFZ.out y4 (HY0.out.trans HE4.out)
  rw [roundsIn_succ]
  gi_wp2
  exact z5g (Ds:=[D4,D3,D2,D1]) rfl (by omega) (HX0.out.trans (HY0.out.trans HE4.out)) s0 s1 s2 ⟨0,0,⟨none,0,rfl,Nat.le_refl _,Nat.zero_le _,fun h => absurd h (by simp),fun h => absurd h (by simp)⟩,fun j x hj => by simp at hj⟩ HM4.out.1 (fun E hE => ⟨by have h1:=(HM4.out.2 E hE).1; omega,(HM4.out.2 E hE).2⟩) HT.out
end
section
open Go.RowKit
def z8b (x:Lay) (ts:List RTerm):Int × SideD:=if mayT ts = false ∨ ts = [] then (2,⟨ByteArray.empty,[],[]⟩) else (0,z1s x (z0l (z21 ts)))
theorem ze5 (x:Lay) (p:PZ):(z1s x p).poly = ofP p:=by
 unfold z1s
 split
 ·rfl
 ·split <;> rfl
theorem zmz {W:World} {v vp:Value} {x:Lay} {ts:List RTerm} {k n:Nat} (hx:LayV (Old W) W v x) (hok:∀ c ∈ x.ats,Ok2 c) (hp:z0h (Old W) W vp ts) (hlk:∀ t ∈ ts,t.c.mag.length ≤ k) (hk:k ≤ 1000000) (hln:ts.length ≤ n) (hn:n ≤ 1000000000000) (hpl:x.pts.length ≤ 1000) (hal:x.ats.length ≤ 1000) :
  Calls Tryz.prog 9 #[v,vp] W fun e w' => ∃ v',e = .returned (.tuple #[v',.int .i64 (z8b x ts).1]) ∧ ztw (New W w') w' v' (z8b x ts).2 ∧ Ext W w':=by
 have hnot:∀ (x:Bool) (w:World),(Op.unary .not (.bool x)).run Tryz.prog w = .ok (.bool (!x)) w:=fun _ _ => rfl
 have HXL:=hid hx
 have HP:=hid hp
 have HOK:=hid hok
 have hsm:zaj ts:=fun t ht => Nat.le_trans (hlk t ht) (Nat.le_trans hk (by decide))
 have CM:=fun (Y:World) (hY:Ext W Y) => z8v (S:=Old Y) vp ts Y (hp.on hY) (fun _ h => h) hsm
 obtain ⟨vq,va,rfl,hq,ha⟩:=hx
 obtain ⟨ap,cp,rfl⟩:=hq.form
 obtain ⟨aa,ca,rfl⟩:=ha.form
 obtain ⟨at_,ct,e0⟩:=hp.form
 obtain ⟨nt,hnt⟩:∃ n,n = ts.length:=⟨_,rfl⟩
 rw [← hnt] at e0
 subst e0
 obtain ⟨nq,hnq⟩:∃ n,n = x.pts.length:=⟨_,rfl⟩
 obtain ⟨na,hna⟩:∃ n,n = x.ats.length:=⟨_,rfl⟩
 rw [← hnq,← hna] at HXL ⊢
 have HNT:=hid hnt
 obtain ⟨w0,hw0⟩:∃ Y,Y = (W.alloc (.cells #[.slice ap nq cp,.slice aa na ca,.int .i64 x.par,.int .i64 x.vrs] 35)).alloc (.cells #[.string { data:=#[] },.slice none 0 0,.slice none 0 0] 40):=⟨_,rfl⟩
 have HX0:Hid (Ext W w0):=hid (by rw [hw0]; exact (Ext.alloc (Ext.refl _) _).alloc _)
 have HB:=hid (fun (Y:World) (hY:Ext w0 Y) => by
  rw [hw0] at hY
  have k0:∀ (i:Nat) (u:Value),#[Value.slice ap nq cp,.slice aa na ca,.int .i64 x.par,.int .i64 x.vrs][i]? = some u → Y.cell? ⟨W.heap.size,i,none⟩ = some u:=fun i u hu => hY.cell (cell_old _ (z02 W _ _ rfl hu))
  have k2:∀ (i:Nat) (u:Value),#[Value.string { data:=#[] },.slice none 0 0,.slice none 0 0][i]? = some u → Y.cell? ⟨W.heap.size + 1,i,none⟩ = some u:=fun i u hu => hY.cell (z02 _ _ _ (by rw [size_alloc]) hu)
  have f2:∀ (i:Nat),Y.frozen? ⟨W.heap.size + 1,i,none⟩ = false:=fun i => hY.free (by simp only [size_alloc]; omega) (by have:=z1n (W.alloc (.cells #[.slice ap nq cp,.slice aa na ca,.int .i64 x.par,.int .i64 x.vrs] 35)) #[.string { data:=#[] },.slice none 0 0,.slice none 0 0] 40 (i:=i); rwa [size_alloc] at this)
  exact And.intro (And.intro (k0 0 _ rfl) (And.intro (k0 1 _ rfl) (And.intro (k0 2 _ rfl) (k0 3 _ rfl)))) (And.intro (And.intro (k2 0 _ rfl) (And.intro (k2 1 _ rfl) (k2 2 _ rfl))) (And.intro (f2 0) (And.intro (f2 1) (f2 2)))))
 have CM0:=hid (CM w0 HX0.out)
 rw [hw0] at CM0
 have HW0:=hid hw0
 have HSET:=hid (fun (Y:World) (a b c:Value) (hY:Ext w0 Y) => by
  obtain ⟨-,⟨c0,c1,c2⟩,-⟩:=HB.out Y hY
  have hb3:Below W.heap.size Y (((Y.setCell ⟨W.heap.size + 1,0,none⟩ a).setCell ⟨W.heap.size + 1,1,none⟩ b).setCell ⟨W.heap.size + 1,2,none⟩ c):=(((Below.refl _ Y).setCell (p:=⟨W.heap.size + 1,0,none⟩) (by show W.heap.size ≤ W.heap.size + 1; omega) _).setCell (p:=⟨W.heap.size + 1,1,none⟩) (by show W.heap.size ≤ W.heap.size + 1; omega) _).setCell (p:=⟨W.heap.size + 1,2,none⟩) (by show W.heap.size ≤ W.heap.size + 1; omega) _
  have k0:(((Y.setCell ⟨W.heap.size + 1,0,none⟩ a).setCell ⟨W.heap.size + 1,1,none⟩ b).setCell ⟨W.heap.size + 1,2,none⟩ c).cell? ⟨W.heap.size + 1,0,none⟩ = some a:=z0b (z0b (z1c c0) (ao (by decide))) (ao (by decide))
  have k1:(((Y.setCell ⟨W.heap.size + 1,0,none⟩ a).setCell ⟨W.heap.size + 1,1,none⟩ b).setCell ⟨W.heap.size + 1,2,none⟩ c).cell? ⟨W.heap.size + 1,1,none⟩ = some b:=z0b (z1c (z0b c1 (ao (by decide)))) (ao (by decide))
  have k2:(((Y.setCell ⟨W.heap.size + 1,0,none⟩ a).setCell ⟨W.heap.size + 1,1,none⟩ b).setCell ⟨W.heap.size + 1,2,none⟩ c).cell? ⟨W.heap.size + 1,2,none⟩ = some c:=z1c (z0b (z0b c2 (ao (by decide))) (ao (by decide)))
  exact And.intro k0 (And.intro k1 (And.intro k2 (show Ext W _ from Below.trans (HX0.out.trans hY) hb3))))
 have HKEEP:=hid (fun (Y:World) (S:Nat → Prop) (a b c:Value) (hS:∀ k,S k → k ≠ W.heap.size + 1) => show Kept S Y (((Y.setCell ⟨W.heap.size + 1,0,none⟩ a).setCell ⟨W.heap.size + 1,1,none⟩ b).setCell ⟨W.heap.size + 1,2,none⟩ c) from ((Kept.setCell (fun h => hS _ h rfl) _).trans (Kept.setCell (fun h => hS _ h rfl) _)).trans (Kept.setCell (fun h => hS _ h rfl) _))
 have HZ0:Hid (W.heap.size + 1 < w0.heap.size):=hid (by rw [hw0]; simp only [size_alloc]; omega)
 clear hp hq ha hnt hnq hna hw0 hsm CM hok
 by_cases hbad:mayT ts = false
 ·have HSD:Hid (z8b x ts = (2,⟨ByteArray.empty,[],[]⟩)):=hid (by unfold z8b; rw [if_pos (.inl hbad)])
  rw [hbad] at CM0
  clear hbad
  go_enter Tryz.func9,Tryz.ntmps9
  go_wp2_with fail
  with_reducible refine CM0.out.mono ?_
  rintro e w1 ⟨rfl,hx1⟩
  rw [← HW0.out] at hx1
  have HX1:=hid hx1
  obtain ⟨-,⟨c0,c1,c2⟩,f0,f1,f2⟩:=HB.out _ hx1
  clear hx1
  go_wp2
  all_goals
   rw [HSD.out]
   obtain ⟨k0,k1,k2,hf⟩:=HSET.out w1 (.string { data:=#[] }) (.slice none 0 0) (.slice none 0 0) HX1.out
   refine bodyPost_ret (v:=.tuple #[.agg #[.string { data:=#[] },.slice none 0 0,.slice none 0 0],.int .i64 2]) (by simp [results,Tryz.results9,go_sem,k0,k1,k2]) rfl ?_
   exact ⟨_,rfl,⟨_,_,rfl,⟨0,0,⟨none,0,rfl,Nat.le_refl _,Nat.zero_le _,fun h => absurd h (by simp),fun h => absurd h (by simp)⟩,fun j x hj => by simp at hj⟩,z0h.nilv _ _ _ _ (by decide)⟩,hf⟩
 ·have hm:mayT ts = true:=by simpa using hbad
  rw [hm] at CM0
  by_cases h0:ts = []
  ·have HSD:Hid (z8b x ts = (2,⟨ByteArray.empty,[],[]⟩)):=hid (by unfold z8b; rw [if_pos (.inr h0)])
   have hb:((nt:Int) == 0) = true:=by rw [HNT.out,h0]; rfl
   clear hbad hm h0
   go_enter Tryz.func9,Tryz.ntmps9
   go_wp2_with fail
   with_reducible refine CM0.out.mono ?_
   rintro e w1 ⟨rfl,hx1⟩
   rw [← HW0.out] at hx1
   have HX1:=hid hx1
   obtain ⟨-,⟨c0,c1,c2⟩,f0,f1,f2⟩:=HB.out _ hx1
   clear hx1
   go_wp2
   all_goals
    rw [HSD.out]
    obtain ⟨k0,k1,k2,hf⟩:=HSET.out w1 (.string { data:=#[] }) (.slice none 0 0) (.slice none 0 0) HX1.out
    refine bodyPost_ret (v:=.tuple #[.agg #[.string { data:=#[] },.slice none 0 0,.slice none 0 0],.int .i64 2]) (by simp [results,Tryz.results9,go_sem,k0,k1,k2]) rfl ?_
    exact ⟨_,rfl,⟨_,_,rfl,⟨0,0,⟨none,0,rfl,Nat.le_refl _,Nat.zero_le _,fun h => absurd h (by simp),fun h => absurd h (by simp)⟩,fun j x hj => by simp at hj⟩,z0h.nilv _ _ _ _ (by decide)⟩,hf⟩
  ·have HSD:Hid (z8b x ts = (0,z1s x (z0l (z21 ts)))):=hid (by unfold z8b; rw [if_neg (by rintro (h | h); exact hbad h; exact h0 h)])
   have hb:((nt:Int) == 0) = false:=by rw [beq_eq_false_iff_ne,HNT.out]; have:=List.length_pos_iff.2 h0; omega
   have hpl2:=zto HP.out hm
   have hfp:Fit k n (z21 ts):=zds HP.out.okT hlk hln
   have CW:=hid (fun (Y:World) (hY:Ext W Y) => z55 (W:=Y) (p:=z21 ts) (by rw [← hpl2]; exact HP.out.on hY) hfp hk hn)
   have CT:=hid (fun (Y:World) (u:Value) (hY:Ext W Y) (hu:z0h (Old Y) Y u (ofP (z0l (z21 ts)))) => zmy (HXL.out.on hY) HOK.out hu hfp.whole hk hn hpl hal)
   clear hbad hm h0 hpl2 hfp
   go_enter Tryz.func9,Tryz.ntmps9
   go_wp2_with fail
   with_reducible refine CM0.out.mono ?_
   rintro e w1 ⟨rfl,hx1⟩
   rw [← HW0.out] at hx1
   have HX1:=hid hx1
   clear hx1
   go_wp2_with fail
   with_reducible refine (CW.out w1 (HX0.out.trans HX1.out)).mono ?_
   rintro e w2 ⟨v2,rfl,hp2,hx2⟩
   have HX2:=hid (HX1.out.trans hx2)
   have HX2':=hid hx2
   have HP2:=hid hp2
   obtain ⟨⟨d0,d1,d2,d3⟩,-⟩:=HB.out _ HX2.out
   have CT2:=hid (CT.out w2 v2 (HX0.out.trans HX2.out) (hp2.to (Kept.refl _ _) New.lt))
   obtain ⟨a2,c2,rfl⟩:=hp2.form
   clear hx2 hp2
   go_wp2_with fail
   with_reducible refine CT2.out.mono ?_
   rintro e w3 ⟨vn,rfl,hs3,hx3⟩
   have HX3:=hid (HX2.out.trans hx3)
   have HX3':=hid hx3
   have HS3:=hid hs3
   obtain ⟨T,hT⟩:∃ T,T = z1s x (z0l (z21 ts)):=⟨_,rfl⟩
   have HTP:Hid (T.poly = ofP (z0l (z21 ts))):=hid (by rw [hT]; exact ze5 _ _)
   rw [← hT] at HS3 HSD ⊢
   obtain ⟨-,⟨c0,c1,c4⟩,f0,f1,f2⟩:=HB.out _ HX3.out
   obtain ⟨an,cn,hvn⟩:=HS3.out.form
   subst hvn
   clear hx3 hs3 hT d0 d1 d2 d3
   go_wp2
   all_goals
    rw [HSD.out]
    obtain ⟨nw,hnw⟩:∃ n,n = (ofP (z0l (z21 ts))).length:=⟨_,rfl⟩
    obtain ⟨k0,k1,k2,hf⟩:=HSET.out w3 (.string T.word) (.slice an T.pts.length cn) (.slice a2 (ofP (z0l (z21 ts))).length c2) HX3.out
    have HK:=HKEEP.out w3 (fun k => w0.heap.size ≤ k ∧ k < w3.heap.size) (.string T.word) (.slice an T.pts.length cn) (.slice a2 (ofP (z0l (z21 ts))).length c2) (fun k hk => by have h1:=hk.1; have h2:=HZ0.out; omega)
    refine bodyPost_ret (v:=.tuple #[.agg #[.string T.word,.slice an T.pts.length cn,.slice a2 (ofP (z0l (z21 ts))).length c2],.int .i64 0]) (by simp [results,Tryz.results9,go_sem,k0,k1,k2]) rfl ?_
    have hsz:∀ k,(fun k => w0.heap.size ≤ k ∧ k < w3.heap.size) k → New W (((w3.setCell ⟨W.heap.size + 1,0,none⟩ (.string T.word)).setCell ⟨W.heap.size + 1,1,none⟩ (.slice an T.pts.length cn)).setCell ⟨W.heap.size + 1,2,none⟩ (.slice a2 (ofP (z0l (z21 ts))).length c2)) k:=fun k hk => ⟨Nat.le_trans HX0.out.size hk.1,by simp only [z06]; exact hk.2⟩
    exact ⟨_,rfl,⟨_,_,rfl,(HS3.out.to (S':=fun k => w0.heap.size ≤ k ∧ k < w3.heap.size) (Kept.refl _ _) (fun k hk => ⟨Nat.le_trans HX2.out.size hk.1,hk.2⟩)).to HK hsz,by rw [HTP.out]; exact (HP2.out.to (S':=fun k => w0.heap.size ≤ k ∧ k < w3.heap.size) (Kept.ext HX3'.out New.lt) (fun k hk => ⟨Nat.le_trans HX1.out.size hk.1,Nat.lt_of_lt_of_le hk.2 HX3'.out.size⟩)).to HK hsz⟩,hf⟩
end
section
open Go.RowKit
theorem ze6 (n:Int) (w:World) (hn:-100000000000000 ≤ n ∧ n ≤ 100000000000000) :
  Calls Tryz.prog 19 #[.int .i64 n] w fun e w' => ∃ v',e = .returned v' ∧ RTs (New w w') w' v' (oneZ n []) ∧ Ext w w':=by
 by_cases h0:0 ≤ n
 ·obtain ⟨k,rfl⟩:∃ k:Nat,n = (k:Int):=⟨n.toNat,by omega⟩
  exact zeu k w (by omega)
 ·obtain ⟨k,rfl⟩:∃ k:Nat,n = -((k:Int) + 1):=⟨(-n - 1).toNat,by omega⟩
  have C1:=hid (zbt k w (by omega))
  have HZ:Hid (szZ (-((k:Int) + 1))):=hid (by
   have h:=zkq (n:=k + 1) (by omega)
   unfold szZ at h ⊢
   rw [Int.natAbs_neg]
   exact h)
  obtain ⟨m,hm⟩:∃ m:Int,m = -((k:Int) + 1):=⟨_,rfl⟩
  rw [← hm] at C1 HZ ⊢
  clear hn h0 hm
  go_enter Tryz.func19,Tryz.ntmps19
  go_wp2_with fail
  refine C1.out.mono ?_
  rintro e w1 ⟨v1,rfl,hz1,hx1⟩
  have HX1:=hid hx1
  have C2:=hid (z5r (S:=New w w1) (.slice none 0 0) v1 (.slice none 0 0) [] m [] w1 (fun _ h => h.2) (RTs.nilv _ _ _ _ (by omega)) hz1 (Pows.empty _ _ _) z33.may rfl ⟨by simp,fun t ht => by simp at ht⟩ HZ.out)
  clear hx1 hz1
  go_wp2_with fail
  refine C2.out.mono ?_
  rintro e w2 ⟨v2,rfl,hp2,hx2⟩
  have HX2:=hid (HX1.out.trans hx2)
  have HP2:Hid (RTs (New w w2) w2 v2 (oneZ m [])):=hid (hp2.to (Kept.refl _ _) (fun k hk => by
   rcases hk with h | h
   ·exact ⟨h.1,Nat.lt_of_lt_of_le h.2 hx2.size⟩
   ·exact ⟨Nat.le_trans HX1.out.size h.1,h.2⟩))
  clear hp2 hx2
  go_wp2
  all_goals
   go_ret
   exact ⟨_,rfl,HP2.out,HX2.out⟩
def nA:ByteArray:={ data:=#[65] }
def nB:ByteArray:={ data:=#[66] }
def nC:ByteArray:={ data:=#[67] }
def lay3:Lay:=⟨[nA,nB,nC],[(1,2),(3,4),(5,6)],6,6⟩
def k28p:PZ:=z30 z0z [(1,2),(3,4)]
def k28q:PZ:=z30 z1a [(3,4),(1,2),(5,6)]
def k28b:PZ:=subP (varP 1) (varP 3)
def k28c:PZ:=zkv (z2n (oneZ (-3) []) k28q)
theorem zug:z2h lay3 z0z [nA,nB] = (0,k28p):=by kernel_rfl
theorem zuh:z2h lay3 z1a [nB,nA,nC] = (0,k28q):=by kernel_rfl
theorem zui:z1s lay3 (z0l k28p) = ⟨z0z,[nA,nB],ofP (z0l k28p)⟩:=by kernel_rfl
theorem ztz:(z1s lay3 (z0l k28b)).word = ByteArray.empty:=by kernel_rfl
theorem zu0:z1s lay3 (z0l k28c) = ⟨z1a,[nA,nB,nC],ofP (z0l k28c)⟩:=by kernel_rfl
end
section
open Go.RowKit
theorem zab (W:World):Calls Tryz.prog 6 #[] W fun e w' => ∃ v',e = .returned v' ∧ LayV (New W w') w' v' lay3 ∧ Ext W w':=by
 go_enter Tryz.func6,Tryz.ntmps6
 go_wp2
 obtain ⟨w0,hw0⟩:∃ Y,Y = ((W.alloc (.cells #[.slice (some ⟨W.heap.size + 1,0,none⟩) 3 3,.slice (some ⟨W.heap.size + 1 + 1,0,none⟩) 3 3,.int .i64 6,.int .i64 6] 35)).alloc (.cells #[.string { data:=#[65] },.string { data:=#[66] },.string { data:=#[67] }] 9)).alloc (.cells #[.int .i64 1,.int .i64 2,.int .i64 3,.int .i64 4,.int .i64 5,.int .i64 6] 87):=⟨_,rfl⟩
 have k0:∀ (i:Nat) (u:Value),#[Value.slice (some ⟨W.heap.size + 1,0,none⟩) 3 3,.slice (some ⟨W.heap.size + 1 + 1,0,none⟩) 3 3,.int .i64 6,.int .i64 6][i]? = some u → w0.cell? ⟨W.heap.size,i,none⟩ = some u:=fun i u hu => by rw [hw0]; exact cell_old _ (cell_old _ (z02 W _ _ rfl hu))
 have k1:∀ (i:Nat) (u:Value),#[Value.string { data:=#[65] },.string { data:=#[66] },.string { data:=#[67] }][i]? = some u → w0.cell? ⟨W.heap.size + 1,i,none⟩ = some u:=fun i u hu => by rw [hw0]; exact cell_old _ (z02 _ _ _ (by rw [size_alloc]) hu)
 have k2:∀ (i:Nat) (u:Value),#[Value.int .i64 1,.int .i64 2,.int .i64 3,.int .i64 4,.int .i64 5,.int .i64 6][i]? = some u → w0.cell? ⟨W.heap.size + 1 + 1,i,none⟩ = some u:=fun i u hu => by rw [hw0]; exact z02 _ _ _ (by rw [size_alloc,size_alloc]) hu
 have hsz:w0.heap.size = W.heap.size + 3:=by rw [hw0]; simp only [size_alloc]
 have hx:Ext W w0:=by rw [hw0]; exact ((Ext.alloc (Ext.refl _) _).alloc _).alloc _
 rw [← hw0]
 have c0:=k0 0 _ rfl
 have c1:=k0 1 _ rfl
 have c2:=k0 2 _ rfl
 have c3:=k0 3 _ rfl
 refine bodyPost_ret (v:=.agg #[.slice (some ⟨W.heap.size + 1,0,none⟩) 3 3,.slice (some ⟨W.heap.size + 1 + 1,0,none⟩) 3 3,.int .i64 6,.int .i64 6]) (by simp [results,Tryz.results6,go_sem,c0,c1,c2,c3]) rfl ?_
 refine ⟨_,rfl,⟨_,_,rfl,⟨W.heap.size + 1,0,⟨_,3,rfl,Nat.le_refl _,by decide,fun _ => rfl,fun _ => ⟨by omega,by omega⟩⟩,fun j s hj => ?_⟩,⟨W.heap.size + 1 + 1,0,⟨_,3,rfl,Nat.le_refl _,by decide,fun _ => rfl,fun _ => ⟨by omega,by omega⟩⟩,fun j c hj => ?_⟩⟩,hx⟩
 ·match j,hj with
  | 0, hj => obtain rfl : nA = s := by simpa [lay3] using hj
             exact k1 0 _ rfl
  | 1, hj => obtain rfl : nB = s := by simpa [lay3] using hj
             exact k1 1 _ rfl
  | 2, hj => obtain rfl : nC = s := by simpa [lay3] using hj
             exact k1 2 _ rfl
  | j + 3,hj => simp [lay3] at hj
 ·match j,hj with
  | 0, hj => obtain rfl : ((1 : Int), (2 : Int)) = c := by simpa [lay3] using hj
             exact ⟨by decide,k2 0 _ rfl,k2 1 _ rfl⟩
  | 1, hj => obtain rfl : ((3 : Int), (4 : Int)) = c := by simpa [lay3] using hj
             exact ⟨by decide,k2 2 _ rfl,k2 3 _ rfl⟩
  | 2, hj => obtain rfl : ((5 : Int), (6 : Int)) = c := by simpa [lay3] using hj
             exact ⟨by decide,k2 4 _ rfl,k2 5 _ rfl⟩
  | j + 3,hj => simp [lay3] at hj
def badC (c:Int × Int):Bool:=decide (c.1 < 1) || decide (200 < c.1) || decide (c.2 < 1) || decide (200 < c.2)
def z3c (x:Lay) (ts:List RTerm):Bool:=decide (60 < x.pts.length) || decide (60 < x.ats.length) || z5h 40 ts || x.ats.any badC
theorem zj9 {x:Lay} {ts:List RTerm} (h:z3c x ts = false):x.pts.length ≤ 60 ∧ x.ats.length ≤ 60 ∧ z5h 40 ts = false ∧ ∀ c ∈ x.ats,Ok2 c:=by
 unfold z3c at h
 simp only [Bool.or_eq_false_iff,decide_eq_false_iff_not] at h
 obtain ⟨⟨⟨h1,h2⟩,h3⟩,h4⟩:=h
 refine ⟨by omega,by omega,h3,fun c hc => ?_⟩
 have h5:=(List.any_eq_false.1 h4) c hc
 unfold badC at h5
 simp only [Bool.not_eq_true,Bool.or_eq_false_iff,decide_eq_false_iff_not] at h5
 unfold Ok2
 omega
theorem zfv {W:World} {v vp:Value} {x:Lay} {ts:List RTerm} (hx:LayV (Old W) W v x) (hp:z0h (Old W) W vp ts) :
  Calls Tryz.prog 7 #[v,vp] W fun e w' => e = .returned (.bool (z3c x ts)) ∧ Ext W w':=by
 have CG:=hid (fun (Y:World) (hY:Ext W Y) => zff (S:=Old Y) vp ts 40 Y (hp.on hY) (fun _ h => h) (by decide))
 obtain ⟨vq,va,rfl,hq,ha⟩:=hx
 have HA:=hid ha
 have hlp:=hq.len_le
 have hla:=ha.len_le
 obtain ⟨ap,cp,rfl⟩:=hq.form
 obtain ⟨aa,ca,rfl⟩:=ha.form
 obtain ⟨at_,ct,rfl⟩:=hp.form
 obtain ⟨nt,hnt⟩:∃ n,n = ts.length:=⟨_,rfl⟩
 obtain ⟨np,hnp⟩:∃ n,n = x.pts.length:=⟨_,rfl⟩
 obtain ⟨na,hna⟩:∃ n,n = x.ats.length:=⟨_,rfl⟩
 rw [← hnt] at CG ⊢
 rw [← hnp] at hlp ⊢
 rw [← hna] at HA hla ⊢
 have HNP:=hid hnp
 have HNA:=hid hna
 have HX0:=hid (Ext.alloc (Ext.refl W) (.cells #[.slice ap np cp,.slice aa na ca,.int .i64 x.par,.int .i64 x.vrs] 35))
 have HB:=hid (fun (Y:World) (hY:Ext (W.alloc (.cells #[.slice ap np cp,.slice aa na ca,.int .i64 x.par,.int .i64 x.vrs] 35)) Y) => z94 W (.slice ap np cp) (.slice aa na ca) (.int .i64 x.par) (.int .i64 x.vrs) 35 hY)
 have CG0:=hid (CG.out _ HX0.out)
 obtain ⟨t,ht⟩:∃ t,t = z5h 40 ts:=⟨_,rfl⟩
 rw [← ht] at CG0
 have HT:=hid ht
 clear hq ha hp hnt hnp hna ht
 by_cases h1:60 < np
 ·have HE:Hid (z3c x ts = true):=hid (by unfold z3c; rw [← HNP.out,decide_eq_true h1]; rfl)
  have q1:decide (60 < (np:Int)) = true:=decide_eq_true (by omega)
  go_enter Tryz.func7,Tryz.ntmps7
  go_wp2
  all_goals
   go_ret
   exact ⟨by rw [HE.out]; rfl,HX0.out⟩
 ·by_cases h2:60 < na
  ·have HE:Hid (z3c x ts = true):=hid (by unfold z3c; rw [← HNP.out,← HNA.out,decide_eq_true h2]; simp)
   have q1:decide (60 < (np:Int)) = false:=decide_eq_false (by omega)
   have q2:decide (60 < (na:Int)) = true:=decide_eq_true (by omega)
   go_enter Tryz.func7,Tryz.ntmps7
   go_wp2
   all_goals
    go_ret
    exact ⟨by rw [HE.out]; rfl,HX0.out⟩
  ·have q1:decide (60 < (np:Int)) = false:=decide_eq_false (by omega)
   have q2:decide (60 < (na:Int)) = false:=decide_eq_false (by omega)
   cases t with
   | true =>
    have HE:Hid (z3c x ts = true):=hid (by unfold z3c; rw [← HT.out]; simp)
    go_enter Tryz.func7,Tryz.ntmps7
    go_wp2_with fail
    with_reducible refine CG0.out.mono ?_
    rintro e w1 ⟨rfl,hx1⟩
    have HX1:=hid (HX0.out.trans hx1)
    clear hx1
    go_wp2
    all_goals
     go_ret
     exact ⟨by rw [HE.out]; rfl,HX1.out⟩
   | false =>
    have HE0:Hid (z3c x ts = x.ats.any badC):=hid (by unfold z3c; rw [← HNP.out,← HNA.out,← HT.out,decide_eq_false h1,decide_eq_false h2]; rfl)
    go_enter Tryz.func7,Tryz.ntmps7
    go_wp2_with fail
    with_reducible refine CG0.out.mono ?_
    rintro e w1 ⟨rfl,hx1⟩
    have HX1:=hid hx1
    obtain ⟨c0,c1⟩:=HB.out _ hx1
    clear hx1
    go_wp2
    go_loopw [24] (fun i wr => ∃ k:Nat,k ≤ na ∧ i = .int .i64 k ∧ Ext w1 wr ∧ Hid ((x.ats.take k).any badC = false)) (fun i _ => na - (intOf i).toNat)
    case atStart => exact ⟨0,Nat.zero_le _,rfl,Ext.refl _,rfl⟩
    case round =>
     obtain ⟨k,hk,rfl,hxr,HA0⟩:=hrel
     have HX:=hid hxr
     have HXW:=hid (HX0.out.trans (HX1.out.trans hxr))
     by_cases hlt:k < na
     ·obtain ⟨c,hc⟩:=z00 (l:=x.ats) (j:=k) (by rw [← HNA.out]; exact hlt)
      obtain ⟨b2,o2,rfl,-,hq4,hq5,-,⟨hz1,hz2⟩,z0,z1⟩:=(HA.out.on HXW.out).cellAt hc
      have HTK:Hid (x.ats.take (k + 1) = x.ats.take k ++ [c]):=hid (by rw [List.take_add_one,hc]; rfl)
      have HMC:=hid (List.mem_of_getElem? hc)
      obtain ⟨u,z⟩:=c
      simp only at z0 z1 hz1 hz2
      clear hc hxr
      by_cases hb:badC (u,z) = true
      ·have HE:Hid (z3c x ts = true):=hid (by rw [HE0.out,List.any_eq_true.2 ⟨_,HMC.out,hb⟩])
       unfold badC at hb
       simp only at hb
       by_cases e1:u < 1
       ·have p1:decide (u < 1) = true:=decide_eq_true e1
        clear hb
        go_wp2
        all_goals
         go_ret
         exact ⟨by rw [HE.out]; rfl,HXW.out.alloc _⟩
       ·have p1:decide (u < 1) = false:=decide_eq_false e1
        by_cases e2:200 < u
        ·have p2:decide (200 < u) = true:=decide_eq_true e2
         clear hb
         go_wp2
         all_goals
          go_ret
          exact ⟨by rw [HE.out]; rfl,HXW.out.alloc _⟩
        ·have p2:decide (200 < u) = false:=decide_eq_false e2
         by_cases e3:z < 1
         ·have p3:decide (z < 1) = true:=decide_eq_true e3
          clear hb
          go_wp2
          all_goals
           go_ret
           exact ⟨by rw [HE.out]; rfl,HXW.out.alloc _⟩
         ·have p3:decide (z < 1) = false:=decide_eq_false e3
          have e4:200 < z:=by rw [p1,p2,p3] at hb; simpa using hb
          have p4:decide (200 < z) = true:=decide_eq_true e4
          clear hb
          go_wp2
          all_goals
           go_ret
           exact ⟨by rw [HE.out]; rfl,HXW.out.alloc _⟩
      ·have hb2:badC (u,z) = false:=by simpa using hb
       have HBD:=hid hb2
       unfold badC at hb2
       simp only [Bool.or_eq_false_iff] at hb2
       obtain ⟨⟨⟨p1,p2⟩,p3⟩,p4⟩:=hb2
       clear hb
       go_wp2
       go_roundw
       case rel => exact ⟨k + 1,by omega,by go_num,HX.out.alloc _,hid (by rw [HTK.out,List.any_append,HA0.out,List.any_cons,HBD.out]; rfl)⟩
       case measure => simp only [intOf]; omega
     ·obtain rfl:na = k:=by omega
      have HE:Hid (z3c x ts = false):=hid (by rw [HE0.out]; have h:=HA0.out; rwa [List.take_of_length_le (by rw [← HNA.out]; exact Nat.le_refl _)] at h)
      go_wp2
      all_goals
       go_ret
       exact ⟨by rw [HE.out]; rfl,HXW.out⟩
end
section
open Go.RowKit
abbrev z3:Array Value:=#[.string { data:=#[] },.slice none 0 0,.slice none 0 0]
structure SBx (wb:World) (b:Nat) (Y:World):Prop where
 c0:Y.cell? ⟨b,0,none⟩ = some (.string { data:=#[] })
 c1:Y.cell? ⟨b,1,none⟩ = some (.slice none 0 0)
 c2:Y.cell? ⟨b,2,none⟩ = some (.slice none 0 0)
 f0:Y.frozen? ⟨b,0,none⟩ = false
 f1:Y.frozen? ⟨b,1,none⟩ = false
 f2:Y.frozen? ⟨b,2,none⟩ = false
 lo:wb.heap.size ≤ b
theorem SBx.ext {wb:World} {b:Nat} {Y Z:World} (h:SBx wb b Y) (hx:Ext Y Z):SBx wb b Z :=
 ⟨hx.cell h.c0,hx.cell h.c1,hx.cell h.c2,hx.free (z08 h.c0) h.f0,hx.free (z08 h.c0) h.f1,hx.free (z08 h.c0) h.f2,h.lo⟩
theorem zhc {wb Y:World} (hw:Ext wb Y) (T:TypeId):SBx wb Y.heap.size (Y.alloc (.cells #[.string { data:=#[] },.slice none 0 0,.slice none 0 0] T)) :=
 ⟨z02 Y _ _ rfl rfl,z02 Y _ _ rfl rfl,z02 Y _ _ rfl rfl,z1n _ _ _,z1n _ _ _,z1n _ _ _,hw.size⟩
theorem z62 {wb Y Z:World} {T:TypeId} (hw:Ext wb Y) (h:Ext (Y.alloc (.cells #[.string { data:=#[] },.slice none 0 0,.slice none 0 0] T)) Z):SBx wb Y.heap.size Z:=(zhc hw T).ext h
theorem zhd {wb Z:World} {T:TypeId} (h:Ext ((wb.alloc (.cells #[.string { data:=#[] },.slice none 0 0,.slice none 0 0] T)).drew) Z):SBx wb wb.heap.size Z:=(zhc (Ext.refl wb) T).ext ((Ext.drew (Ext.refl _)).trans h)
def SV (wb:World) (b:Nat) (Y:World) (s:SideD) (vn vp:Value):Prop:=Ext wb Y ∧ wb.heap.size ≤ b ∧ (Y.cell? ⟨b,0,none⟩ = some (.string s.word) ∧ Y.cell? ⟨b,1,none⟩ = some vn ∧ Y.cell? ⟨b,2,none⟩ = some vp) ∧ Strs (Old Y) Y vn s.pts ∧ z0h (Old Y) Y vp s.poly
theorem SV.ext {wb:World} {b:Nat} {Y Z:World} {s:SideD} {vn vp:Value} (h:SV wb b Y s vn vp) (hx:Ext Y Z):SV wb b Z s vn vp :=
 ⟨h.1.trans hx,h.2.1,⟨hx.cell h.2.2.1.1,hx.cell h.2.2.1.2.1,hx.cell h.2.2.1.2.2⟩,h.2.2.2.1.to (Kept.ext hx (fun _ h => h)) (z2b hx),h.2.2.2.2.on hx⟩
theorem z7s {wb Y:World} {b:Nat} (h:Ext wb Y) (hb:wb.heap.size ≤ b) (x y z:Value):Ext wb (((Y.setCell ⟨b,0,none⟩ x).setCell ⟨b,1,none⟩ y).setCell ⟨b,2,none⟩ z):=((h.setCell (p:=⟨b,0,none⟩) hb _).setCell (p:=⟨b,1,none⟩) hb _).setCell (p:=⟨b,2,none⟩) hb _
theorem SV.fresh {wb Y:World} {s:SideD} {vn vp:Value} (hx:Ext wb Y) (h1:Strs (Old Y) Y vn s.pts) (h2:z0h (Old Y) Y vp s.poly) (T:TypeId):SV wb Y.heap.size (Y.alloc (.cells #[.string s.word,vn,vp] T)) s vn vp:=by
 have hy:Ext Y (Y.alloc (.cells #[.string s.word,vn,vp] T)):=Ext.alloc (Ext.refl _) _
 exact ⟨hx.trans hy,hx.size,⟨z02 Y _ _ rfl rfl,z02 Y _ _ rfl rfl,z02 Y _ _ rfl rfl⟩,h1.to (Kept.ext hy (fun _ h => h)) (z2b hy),h2.on hy⟩
theorem SV.put {wb Y:World} {b:Nat} {s:SideD} {vn vp:Value} (hb:SBx wb b Y) (hx:Ext wb Y) (h1:Strs (fun k => k < Y.heap.size ∧ k ≠ b) Y vn s.pts) (h2:z0h (fun k => k < Y.heap.size ∧ k ≠ b) Y vp s.poly):SV wb b (((Y.setCell ⟨b,0,none⟩ (.string s.word)).setCell ⟨b,1,none⟩ vn).setCell ⟨b,2,none⟩ vp) s vn vp:=by
 have hk:Kept (fun k => k < Y.heap.size ∧ k ≠ b) Y (((Y.setCell ⟨b,0,none⟩ (.string s.word)).setCell ⟨b,1,none⟩ vn).setCell ⟨b,2,none⟩ vp):=((Kept.setCell (fun h => h.2 rfl) _).trans (Kept.setCell (fun h => h.2 rfl) _)).trans (Kept.setCell (fun h => h.2 rfl) _)
 have hs:∀ k,(k < Y.heap.size ∧ k ≠ b) → Old (((Y.setCell ⟨b,0,none⟩ (.string s.word)).setCell ⟨b,1,none⟩ vn).setCell ⟨b,2,none⟩ vp) k:=fun k hk => by
  unfold Old
  simp only [z06]; exact hk.1
 exact ⟨z7s hx hb.lo _ _ _,hb.lo,⟨z0b (z0b (z1c hb.c0) (ao (by decide))) (ao (by decide)),z0b (z1c (z0b hb.c1 (ao (by decide)))) (ao (by decide)),z1c (z0b (z0b hb.c2 (ao (by decide))) (ao (by decide)))⟩,h1.to hk hs,h2.to hk hs⟩
theorem zpz {x:Lay} {p:PZ} {k n:Nat} (fp:Fit k n p) (h0:p ≠ []):z8b x (ofP p) = (0,z1s x (z0l p)):=by
 unfold z8b
 rw [fp.plain,if_neg]
 rintro (h | h)
 ·rw [fp.may] at h; cases h
 ·exact h0 (List.length_eq_zero_iff.1 (by rw [← z5v,h]; rfl))
theorem zq0 {W:World} {v vp:Value} {x:Lay} {p:PZ} {k n:Nat} (hx:LayV (Old W) W v x) (hok:∀ c ∈ x.ats,Ok2 c) (hp:PV W vp p) (fp:Fit k n p) (h0:p ≠ []) (hk:k ≤ 1000000) (hn:n ≤ 1000000000000) (hpl:x.pts.length ≤ 1000) (hal:x.ats.length ≤ 1000) :
  Calls Tryz.prog 9 #[v,vp] W fun e w' => ∃ v',e = .returned (.tuple #[v',.int .i64 0]) ∧ ztw (New W w') w' v' (z1s x (z0l p)) ∧ Ext W w':=by
 have h:=zmz (k:=k) (n:=n) hx hok hp fp.lens hk fp.len hn hpl hal
 rw [zpz fp h0] at h
 exact h
theorem zn0 {W:World} {u:Value} {p:PZ} {k n:Nat} (hp:PV W u p) (fp:Fit k n p) (hk:k ≤ 90000) (hn:n ≤ 1000000000000) :
  Calls Tryz.prog 12 #[u] W fun e w' => ∃ v',e = .returned v' ∧ RV w' v' p ∧ Ext W w' :=
 (zo9 (S:=Old W) u (ofP p) W hp (fun _ h => h) (fun t ht => Nat.le_trans (fp.lens t ht) (by omega)) (by rw [z3x]; exact fp.can.may) (fun j _ => by rw [z3x,zm2 fp.can]; exact zp5 (z5e fp (by omega) hn) j)).mono (by
  rintro e w' ⟨v',rfl,h,hx⟩
  rw [z3x,z5m fp.can] at h
  exact ⟨v',rfl,h.to (Kept.refl _ _) (z7m hx),hx⟩)
theorem zn1 (W:World) {n:Int} (hn:-100000000000000 ≤ n ∧ n ≤ 100000000000000) :
  Calls Tryz.prog 19 #[.int .i64 n] W fun e w' => ∃ v',e = .returned v' ∧ RV w' v' (oneZ n []) ∧ Ext W w' :=
 (ze6 n W hn).mono (by
  rintro e w' ⟨v',rfl,h,hx⟩
  exact ⟨v',rfl,h.to (Kept.refl _ _) New.lt,hx⟩)
theorem zsj {W:World} {u v:Value} {p q c:PZ} {k l n m:Nat} (hp:RV W u p) (hq:RV W v q) (fp:Fit k n p) (fq:Fit l m q) (hk:k + l ≤ 90000) (hn:n ≤ 1000000000000) (hm:m ≤ 1000000000000) (hnm:n * m ≤ 1000000000000) (hc:z2n p q = some c) :
  Calls Tryz.prog 18 #[u,v] W fun e w' => ∃ v',e = .returned v' ∧ RV w' v' c ∧ Ext W w' :=
 (zd3 (S:=Old W) u v p q W (fun _ h => h) hp hq fp.can.may fq.can.may (z5e fp (by omega) hn) (z5e fq (by omega) hm) (zh1 fp fq (by omega) hnm)).mono (by
  rintro e w' ⟨v',rfl,h,hx⟩
  rw [hc] at h
  exact ⟨v',rfl,h.to (Kept.refl _ _) (z7m hx),hx⟩)
end
section
open Go.RowKit
theorem zn2 {w:World} {a b:ByteArray} (T:TypeId):Strs (Old (w.alloc (.cells #[.string a,.string b] T))) (w.alloc (.cells #[.string a,.string b] T)) (.slice (some ⟨w.heap.size,0,none⟩) 2 2) [a,b]:=by
 refine ⟨w.heap.size,0,⟨_,2,rfl,Nat.le_refl _,by decide,fun _ => rfl,fun _ => by show w.heap.size < (w.alloc _).heap.size; rw [size_alloc]; omega⟩,fun j s hj => ?_⟩
 match j,hj with
 | 0,hj =>
  obtain rfl:a = s:=by simpa using hj
  exact z02 _ _ _ rfl rfl
 | 1,hj =>
  obtain rfl:b = s:=by simpa using hj
  exact z02 _ _ _ rfl rfl
 | j + 2,hj => simp at hj
theorem zn3 {w:World} {a b c:ByteArray} (T:TypeId):Strs (Old (w.alloc (.cells #[.string a,.string b,.string c] T))) (w.alloc (.cells #[.string a,.string b,.string c] T)) (.slice (some ⟨w.heap.size,0,none⟩) 3 3) [a,b,c]:=by
 refine ⟨w.heap.size,0,⟨_,3,rfl,Nat.le_refl _,by decide,fun _ => rfl,fun _ => by show w.heap.size < (w.alloc _).heap.size; rw [size_alloc]; omega⟩,fun j s hj => ?_⟩
 match j,hj with
 | 0,hj =>
  obtain rfl:a = s:=by simpa using hj
  exact z02 _ _ _ rfl rfl
 | 1,hj =>
  obtain rfl:b = s:=by simpa using hj
  exact z02 _ _ _ rfl rfl
 | 2,hj =>
  obtain rfl:c = s:=by simpa using hj
  exact z02 _ _ _ rfl rfl
 | j + 3,hj => simp at hj
theorem ok3:∀ c ∈ lay3.ats,Ok2 c:=by
 intro c hc
 simp only [lay3,List.mem_cons,List.not_mem_nil,or_false] at hc
 rcases hc with rfl | rfl | rfl <;> (unfold Ok2; decide)
theorem zu1:Fit 10 8 k28p:=z4q _ (by intro c hc; simp at hc; rcases hc with rfl | rfl <;> (unfold Ok2; decide))
theorem zn4:Fit 10 8 k28q:=z4q _ (by intro c hc; simp at hc; rcases hc with rfl | rfl | rfl <;> (unfold Ok2; decide))
theorem zqr:Fit 3 2 k28b:=(z29 (by decide)).sub (z29 (by decide)) (by decide) rfl
theorem zqs:z2n (oneZ (-3) []) k28q = some k28c:=by kernel_rfl
theorem zqt:Fit 13 8 k28c:=by
 have h:=(zbx (c:=-3) (m:=[]) (k:=1) rfl (show lenI (-3) ≤ 1 from (z6l (by decide):lenI 3 ≤ 1))).times zn4 zqs (by decide)
 exact h.mono (by decide) (by decide)
theorem zu2:k28p ≠ []:=fun h => by
 have e:k28p.isEmpty = false:=by kernel_rfl
 rw [h] at e; cases e
theorem zu3:k28b ≠ []:=fun h => by
 have e:k28b.isEmpty = false:=by kernel_rfl
 rw [h] at e; cases e
theorem zu4:k28c ≠ []:=fun h => by
 have e:k28c.isEmpty = false:=by kernel_rfl
 rw [h] at e; cases e
theorem ze7 (W:World):Calls Tryz.prog 6 #[] W fun e w' => ∃ (al:Option Addr) (cl:Nat) (ac:Option Addr) (cc:Nat),e = .returned (.agg #[.slice al 3 cl,.slice ac 3 cc,.int .i64 6,.int .i64 6]) ∧ LayV (Old w') w' (.agg #[.slice al 3 cl,.slice ac 3 cc,.int .i64 6,.int .i64 6]) lay3 ∧ Ext W w' :=
 (zab W).mono (by
  rintro e w1 ⟨v1,rfl,⟨vl,vc,rfl,hl,hc⟩,hx1⟩
  obtain ⟨al,cl,el⟩:=hl.form
  obtain ⟨ac,cc,ec⟩:=hc.form
  subst el ec
  exact ⟨al,cl,ac,cc,rfl,⟨_,_,rfl,hl.to (Kept.refl _ _) New.lt,hc.to (Kept.refl _ _) New.lt⟩,hx1⟩)
theorem z2i (W:World):Calls Tryz.prog 8 #[] W fun e w' => e = .returned (.bool true) ∧ Ext W w':=by
 have C0:=hid (ze7 W)
 go_enter Tryz.func8,Tryz.ntmps8
 go_wp2_with fail
 with_reducible refine C0.out.mono ?_
 rintro e w1 ⟨al,cl,ac,cc,rfl,hl,hx1⟩
 have HX1:=hid hx1
 have HL:=hid hl
 clear hl hx1
 obtain ⟨wa,hwa⟩:∃ Y,Y = w1.alloc (.cells #[.slice al 3 cl,.slice ac 3 cc,.int .i64 6,.int .i64 6] 35):=⟨_,rfl⟩
 obtain ⟨b1,hb1⟩:∃ b,b = w1.heap.size:=⟨_,rfl⟩
 have HXA:Hid (Ext w1 wa):=hid (by rw [hwa]; exact Ext.alloc (Ext.refl _) _)
 have HSA:Hid (∀ Y,Ext wa Y → Y.cell? ⟨b1,0,none⟩ = some (.slice al 3 cl) ∧ Y.cell? ⟨b1,1,none⟩ = some (.slice ac 3 cc) ∧ Y.cell? ⟨b1,2,none⟩ = some (.int .i64 6) ∧ Y.cell? ⟨b1,3,none⟩ = some (.int .i64 6)):=hid (fun Y h => by
  rw [hwa] at h
  have k0:∀ (i:Nat) (u:Value),#[Value.slice al 3 cl,.slice ac 3 cc,.int .i64 6,.int .i64 6][i]? = some u → Y.cell? ⟨b1,i,none⟩ = some u:=fun i u hu => h.cell (z02 w1 _ _ hb1 hu)
  exact ⟨k0 0 _ rfl,k0 1 _ rfl,k0 2 _ rfl,k0 3 _ rfl⟩)
 have HLA:=hid (fun (Y:World) (hY:Ext wa Y) => HL.out.on (HXA.out.trans hY))
 have CA:=hid (fun (Y:World) (hY:Ext wa Y) => (show Calls Tryz.prog 17 #[.agg #[.slice al 3 cl,.slice ac 3 cc,.int .i64 6,.int .i64 6],.string { data:=#[117,110,108,105,107,101] },.slice (some ⟨Y.heap.size,0,none⟩) 2 2] (Y.alloc (.cells #[.string { data:=#[65] },.string { data:=#[66] }] 9)) fun e w' => ∃ v',e = .returned (.tuple #[v',.int .i64 0]) ∧ PV w' v' k28p ∧ Ext Y w' from
  (z7o (W:=Y.alloc (.cells #[.string nA,.string nB] 9)) (wd:=z0z) (names:=[nA,nB]) (HLA.out _ (hY.alloc _)) ok3 (zn2 (w:=Y) (a:=nA) (b:=nB) 9) (by decide)).mono (by
   rintro e w' ⟨v',rfl,h,hx⟩
   rw [zug] at h ⊢
   exact ⟨v',rfl,h,(Ext.alloc (Ext.refl Y) _).trans hx⟩)))
 have CB:=hid (fun (Y:World) (hY:Ext wa Y) => (show Calls Tryz.prog 17 #[.agg #[.slice al 3 cl,.slice ac 3 cc,.int .i64 6,.int .i64 6],.string { data:=#[97,112,97,114,116] },.slice (some ⟨Y.heap.size,0,none⟩) 3 3] (Y.alloc (.cells #[.string { data:=#[66] },.string { data:=#[65] },.string { data:=#[67] }] 9)) fun e w' => ∃ v',e = .returned (.tuple #[v',.int .i64 0]) ∧ PV w' v' k28q ∧ Ext Y w' from
  (z7o (W:=Y.alloc (.cells #[.string nB,.string nA,.string nC] 9)) (wd:=z1a) (names:=[nB,nA,nC]) (HLA.out _ (hY.alloc _)) ok3 (zn3 (w:=Y) (a:=nB) (b:=nA) (c:=nC) 9) (by decide)).mono (by
   rintro e w' ⟨v',rfl,h,hx⟩
   rw [zuh] at h ⊢
   exact ⟨v',rfl,h,(Ext.alloc (Ext.refl Y) _).trans hx⟩)))
 have CS:=fun (Y:World) (u:Value) (p:PZ) (hY:Ext wa Y) (hu:PV Y u p) {k n:Nat} (fp:Fit k n p) (h0:p ≠ []) (hk:k ≤ 1000000) (hn:n ≤ 1000000000000) => zq0 (HLA.out Y hY) ok3 hu fp h0 hk hn (by decide) (by decide)
 have HCS:=hid CS
 have HWA:=hid hwa
 have HB1:=hid hb1
 clear hwa hb1 CS
 go_upto_region 2 with fail
 rw [← HB1.out]
 rw [← HWA.out]
 obtain ⟨d0,d1,d2,d3⟩:=HSA.out wa (Ext.refl _)
 go_wp2_with fail
 with_reducible refine (CA.out wa (Ext.refl _)).mono ?_
 rintro e w2 ⟨v2,rfl,hp2,hx2⟩
 have HX2:=hid hx2
 have HP2:=hid hp2
 obtain ⟨a2,c2,rfl⟩:=hp2.form
 obtain ⟨e0,e1,e2,e3⟩:=HSA.out w2 hx2
 clear hp2 hx2 d0 d1 d2 d3
 go_wp2_with fail
 with_reducible refine (CB.out w2 HX2.out).mono ?_
 rintro e w3 ⟨v3,rfl,hp3,hx3⟩
 have HX3:=hid (HX2.out.trans hx3)
 have HP3:=hid hp3
 have HP2:=hid (HP2.out.on hx3)
 obtain ⟨a3,c3,rfl⟩:=hp3.form
 obtain ⟨d0,d1,d2,d3⟩:=HSA.out w3 HX3.out
 clear hp3 hx3 e0 e1 e2 e3
 obtain ⟨sA,hsA⟩:∃ s:SideD,s = ⟨z0z,[nA,nB],ofP (z0l k28p)⟩:=⟨_,rfl⟩
 obtain ⟨sB,hsB⟩:∃ s:SideD,s = z1s lay3 (z0l k28b):=⟨_,rfl⟩
 obtain ⟨sC,hsC⟩:∃ s:SideD,s = ⟨z1a,[nA,nB,nC],ofP (z0l k28c)⟩:=⟨_,rfl⟩
 have CS1:=hid (HCS.out w3 _ k28p HX3.out HP2.out zu1 zu2 (by decide) (by decide))
 rw [zui,← hsA] at CS1
 have HSAE:=hid hsA
 have HSBE:=hid hsB
 have HSCE:=hid hsC
 clear hsA hsB hsC
 go_wp2_with fail
 with_reducible refine CS1.out.mono ?_
 rintro e w4 ⟨v4,rfl,⟨vn4,vp4,rfl,hs4,ht4⟩,hx4⟩
 have HX4:=hid (HX3.out.trans hx4)
 have HP3:=hid (HP3.out.on hx4)
 obtain ⟨an4,cn4,en4⟩:=hs4.form
 obtain ⟨ap4,cp4,ep4⟩:=ht4.form
 have HSV:=hid (SV.fresh (Ext.refl w4) (hs4.to (Kept.refl _ _) New.lt) (ht4.to (Kept.refl _ _) New.lt) 40)
 have HXF:=hid (show Ext w4 (w4.alloc (.cells #[.string sA.word,vn4,vp4] 40)) from Ext.alloc (Ext.refl _) _)
 subst en4 ep4
 obtain ⟨w5,hw5⟩:∃ Y,Y = w4.alloc (.cells #[.string sA.word,.slice an4 sA.pts.length cn4,.slice ap4 sA.poly.length cp4] 40):=⟨_,rfl⟩
 rw [← hw5] at HSV HXF
 obtain ⟨b6,hb6⟩:∃ b,b = w4.heap.size:=⟨_,rfl⟩
 rw [← hb6] at HSV
 clear hx4 hs4 ht4 d0 d1 d2 d3
 go_upto_region 5 with fail
 rw [← hb6]
 rw [← hw5]
 clear hw5 hb6
 have HX5:=hid (HX4.out.trans HXF.out)
 have HP3:=hid (HP3.out.on HXF.out)
 have HSW:Hid (∀ Y,Ext w5 Y → Y.cell? ⟨b1,0,none⟩ = some (.slice al 3 cl) ∧ Y.cell? ⟨b1,1,none⟩ = some (.slice ac 3 cc) ∧ Y.cell? ⟨b1,2,none⟩ = some (.int .i64 6) ∧ Y.cell? ⟨b1,3,none⟩ = some (.int .i64 6)):=hid (fun Y h => HSA.out Y (HX5.out.trans h))
 have C1:=hid (fun (Y:World) => rz_x Y (x:=1) (by decide))
 have C2:=hid (fun (Y:World) => rz_x Y (x:=3) (by decide))
 have C3:=hid (fun (Y:World) (u v:Value) (hu:RV Y u (varP 1)) (hv:RV Y v (varP 3)) => (show Calls Tryz.prog 29 #[u,v] Y fun e w' => ∃ v',e = .returned v' ∧ RV w' v' k28b ∧ Ext Y w' from zh2 hu hv (z29 (by decide)) (z29 (by decide)) (by decide) (by decide) (by decide)))
 have C4:=hid (fun (Y:World) (u:Value) (hu:RV Y u k28b) => z8a hu zqr (by decide) (by decide))
 have C5:=fun (Y:World) (u:Value) (hY:Ext w5 Y) (hu:PV Y u k28b) => HCS.out Y u k28b (HX5.out.trans hY) hu zqr zu3 (by decide) (by decide)
 rw [← HSBE.out] at C5
 have C5:=hid C5
 go_cut [8,9] (fun us ue wx => ∃ (bs:Nat) (an:Option Addr) (cn:Nat) (ap:Option Addr) (cp:Nat),us = .pointer (some ⟨bs,0,none⟩) ∧ ue = .int .i64 0 ∧ Hid (SV w5 bs wx sB (.slice an (sB).pts.length cn) (.slice ap (sB).poly.length cp)))
 case first =>
  have HXD:=hid (show Ext w5 w5.drew from Ext.drew (Ext.refl _))
  go_region_held3 (fun Y => Y.cell? ⟨b1,0,none⟩ = some (.slice al 3 cl) ∧ Y.cell? ⟨b1,1,none⟩ = some (.slice ac 3 cc) ∧ Y.cell? ⟨b1,2,none⟩ = some (.int .i64 6) ∧ Y.cell? ⟨b1,3,none⟩ = some (.int .i64 6)) (first | exact HSW.out _ HXD.out | exact HSW.out _ (((Ext.refl w5).alloc _).drew) | exact HSW.out _ HX1.out | exact HSW.out _ (HX1.out.alloc _) | exact HSW.out _ HX2.out | exact HSW.out _ (HX2.out.alloc _) | exact HSW.out _ HX3.out | exact HSW.out _ (HX3.out.alloc _) | exact HSW.out _ HX4.out | exact HSW.out _ (HX4.out.alloc _) | exact HSW.out _ HX5.out | exact HSW.out _ (HX5.out.alloc _) | exact HSW.out _ (z7s HX5.out BX.out.lo _ _ _) | exact HSW.out _ (z7s (HX5.out.alloc _) HX5.out.size _ _ _))
   (first
    | (go_at_call 30; ((with_reducible refine (C1.out _).mono ?_)); rintro e w1 ⟨v1,rfl,hp1,hx1⟩; (first | (have HX1:=hid (HXD.out.trans hx1)) | (have HX1:=hid ((((Ext.refl w5).alloc _).drew).trans hx1)) | fail); (try (have BX:=hid (zhd hx1))); have HP1_1:=hid hp1; obtain ⟨a1,c1,rfl⟩:=hp1.form; clear hx1 hp1)
    | (go_at_call 30; (first | (with_reducible refine (C2.out w1   ).mono ?_) | (with_reducible refine (C2.out _   ).mono ?_) | fail); rintro e w2 ⟨v2,rfl,hp2,hx2⟩; (first | (have HX2:=hid (HX1.out.trans hx2)) | (have HX2:=hid ((HX1.out.alloc _).trans hx2)) | fail); (first | (have BX:=hid (BX.out.ext hx2)) | (have BX:=hid (z62 HX1.out hx2)) | skip); (first | (have HP1_2:=hid (RTs.on HP1_1.out hx2)) | (have HP1_2:=hid (RTs.on HP1_1.out ((Ext.alloc (Ext.refl w1) _).trans hx2))) | fail); have HP2_2:=hid hp2; obtain ⟨a2,c2,rfl⟩:=hp2.form; clear hx2 hp2)
    | (go_at_call 29; (first | (with_reducible refine (C3.out w2 _ _  HP1_2.out HP2_2.out).mono ?_) | (with_reducible refine (C3.out _ _ _  (RTs.on HP1_2.out (Ext.alloc (Ext.refl w2) _)) (RTs.on HP2_2.out (Ext.alloc (Ext.refl w2) _))).mono ?_) | fail); rintro e w3 ⟨v3,rfl,hp3,hx3⟩; (first | (have HX3:=hid (HX2.out.trans hx3)) | (have HX3:=hid ((HX2.out.alloc _).trans hx3)) | fail); (first | (have BX:=hid (BX.out.ext hx3)) | (have BX:=hid (z62 HX2.out hx3)) | skip); have HP3_3:=hid hp3; obtain ⟨a3,c3,rfl⟩:=hp3.form; clear hx3 hp3)
    | (go_at_call 20; (first | (with_reducible refine (C4.out w3 _  HP3_3.out).mono ?_) | (with_reducible refine (C4.out _ _  (RTs.on HP3_3.out (Ext.alloc (Ext.refl w3) _))).mono ?_) | fail); rintro e w4 ⟨v4,rfl,hp4,hx4⟩; (first | (have HX4:=hid (HX3.out.trans hx4)) | (have HX4:=hid ((HX3.out.alloc _).trans hx4)) | fail); (first | (have BX:=hid (BX.out.ext hx4)) | (have BX:=hid (z62 HX3.out hx4)) | skip); have HP4_4:=hid hp4; obtain ⟨a4,c4,rfl⟩:=hp4.form; clear hx4 hp4)
    | (go_at_call 9; (first | (with_reducible refine (C5.out w4 _ HX4.out HP4_4.out).mono ?_) | (with_reducible refine (C5.out _ _ (HX4.out.alloc _) (z0h.on HP4_4.out (Ext.alloc (Ext.refl w4) _))).mono ?_) | fail); rintro e w5 ⟨v5,rfl,⟨vn,vp,rfl,hs,ht⟩,hx5⟩; (try (have BX0:=BX)); (first | (have HX5:=hid (HX4.out.trans hx5)) | (have HX5:=hid ((HX4.out.alloc _).trans hx5)) | fail); (first | (have BX:=hid (BX.out.ext hx5)) | (have BX:=hid (z62 HX4.out hx5)) | skip); (try (obtain ⟨y0,y1,y2,yf0,yf1,yf2,-⟩:=BX.out)); have HS:=hid hs; have HT:=hid ht; have HXL:=hid hx5; obtain ⟨an,cn,rfl⟩:=hs.form; obtain ⟨ap,cp,rfl⟩:=ht.form; clear hx5 hs ht)
    | fail)
  all_goals
   go_wp2_with fail
   go_meet
   first
    | exact ⟨_,_,_,_,_,rfl,rfl,hid (SV.put BX.out HX5.out (HS.out.to (Kept.refl _ _) (fun k hk => ⟨hk.2,fun e => by have h1:=hk.1; rw [size_alloc] at h1; omega⟩)) (HT.out.to (Kept.refl _ _) (fun k hk => ⟨hk.2,fun e => by have h1:=hk.1; rw [size_alloc] at h1; omega⟩)))⟩
    | exact ⟨_,_,_,_,_,rfl,rfl,hid (SV.put BX.out HX5.out (HS.out.to (Kept.refl _ _) (fun k hk => ⟨hk.2,fun e => by have h1:=hk.1; have h2:=z08 BX0.out.c0; omega⟩)) (HT.out.to (Kept.refl _ _) (fun k hk => ⟨hk.2,fun e => by have h1:=hk.1; have h2:=z08 BX0.out.c0; omega⟩)))⟩
    | exact ⟨_,_,_,_,_,rfl,rfl,hid (SV.fresh HX5.out (HS.out.to (Kept.refl _ _) (fun k hk => hk.2)) (HT.out.to (Kept.refl _ _) (fun k hk => hk.2)) _)⟩
    | fail
 case rest =>
  obtain ⟨b7,an7,cn7,ap7,cp7,rfl,rfl,HSV2⟩:=hcut
  have HX6:=hid (HX5.out.trans HSV2.out.1)
  have HSV:=hid (HSV.out.ext HSV2.out.1)
  have HP3:=hid (HP3.out.on HSV2.out.1)
  go_upto_region 6 with fail
  obtain ⟨w6,hw6⟩:∃ Y,Y = wc:=⟨_,rfl⟩
  rw [← hw6] at HX6 HSV HSV2 HP3 ⊢
  clear hw6
  have HSW:Hid (∀ Y,Ext w6 Y → Y.cell? ⟨b1,0,none⟩ = some (.slice al 3 cl) ∧ Y.cell? ⟨b1,1,none⟩ = some (.slice ac 3 cc) ∧ Y.cell? ⟨b1,2,none⟩ = some (.int .i64 6) ∧ Y.cell? ⟨b1,3,none⟩ = some (.int .i64 6)):=hid (fun Y h => HSA.out Y (HX6.out.trans h))
  have C1:=hid (fun (Y:World) => zn1 Y (n:=-3) (by decide))
  have C2:=hid (fun (Y:World) (hY:Ext w6 Y) => zn0 (HP3.out.on hY) zn4 (by decide) (by decide))
  have C3:=hid (fun (Y:World) (u v:Value) (hu:RV Y u (oneZ (-3) [])) (hv:RV Y v k28q) => zsj hu hv (zbx (c:=-3) (m:=[]) (k:=1) rfl (show lenI (-3) ≤ 1 from (z6l (by decide):lenI 3 ≤ 1))) zn4 (by decide) (by decide) (by decide) (by decide) zqs)
  have C4:=hid (fun (Y:World) (u:Value) (hu:RV Y u k28c) => z8a hu zqt (by decide) (by decide))
  have C5:=fun (Y:World) (u:Value) (hY:Ext w6 Y) (hu:PV Y u k28c) => HCS.out Y u k28c (HX6.out.trans hY) hu zqt zu4 (by decide) (by decide)
  rw [zu0,← HSCE.out] at C5
  have C5:=hid C5
  go_cut [10,11] (fun us ue wx => ∃ (bs:Nat) (an:Option Addr) (cn:Nat) (ap:Option Addr) (cp:Nat),us = .pointer (some ⟨bs,0,none⟩) ∧ ue = .int .i64 0 ∧ Hid (SV w6 bs wx sC (.slice an (sC).pts.length cn) (.slice ap (sC).poly.length cp)))
  case first =>
   have HXD:=hid (show Ext w6 w6.drew from Ext.drew (Ext.refl _))
   go_region_held3 (fun Y => Y.cell? ⟨b1,0,none⟩ = some (.slice al 3 cl) ∧ Y.cell? ⟨b1,1,none⟩ = some (.slice ac 3 cc) ∧ Y.cell? ⟨b1,2,none⟩ = some (.int .i64 6) ∧ Y.cell? ⟨b1,3,none⟩ = some (.int .i64 6)) (first | exact HSW.out _ HXD.out | exact HSW.out _ (((Ext.refl w6).alloc _).drew) | exact HSW.out _ HX1.out | exact HSW.out _ (HX1.out.alloc _) | exact HSW.out _ HX2.out | exact HSW.out _ (HX2.out.alloc _) | exact HSW.out _ HX3.out | exact HSW.out _ (HX3.out.alloc _) | exact HSW.out _ HX4.out | exact HSW.out _ (HX4.out.alloc _) | exact HSW.out _ HX5.out | exact HSW.out _ (HX5.out.alloc _) | exact HSW.out _ (z7s HX5.out BX.out.lo _ _ _) | exact HSW.out _ (z7s (HX5.out.alloc _) HX5.out.size _ _ _))
    (first
     | (go_at_call 19; ((with_reducible refine (C1.out _).mono ?_)); rintro e w1 ⟨v1,rfl,hp1,hx1⟩; (first | (have HX1:=hid (HXD.out.trans hx1)) | (have HX1:=hid ((((Ext.refl w6).alloc _).drew).trans hx1)) | fail); (try (have BX:=hid (zhd hx1))); have HP1_1:=hid hp1; obtain ⟨a1,c1,rfl⟩:=hp1.form; clear hx1 hp1)
     | (go_at_call 12; (first | (with_reducible refine (C2.out w1  HX1.out ).mono ?_) | (with_reducible refine (C2.out _  (HX1.out.alloc _) ).mono ?_) | fail); rintro e w2 ⟨v2,rfl,hp2,hx2⟩; (first | (have HX2:=hid (HX1.out.trans hx2)) | (have HX2:=hid ((HX1.out.alloc _).trans hx2)) | fail); (first | (have BX:=hid (BX.out.ext hx2)) | (have BX:=hid (z62 HX1.out hx2)) | skip); (first | (have HP1_2:=hid (RTs.on HP1_1.out hx2)) | (have HP1_2:=hid (RTs.on HP1_1.out ((Ext.alloc (Ext.refl w1) _).trans hx2))) | fail); have HP2_2:=hid hp2; obtain ⟨a2,c2,rfl⟩:=hp2.form; clear hx2 hp2)
     | (go_at_call 18; (first | (with_reducible refine (C3.out w2 _ _  HP1_2.out HP2_2.out).mono ?_) | (with_reducible refine (C3.out _ _ _  (RTs.on HP1_2.out (Ext.alloc (Ext.refl w2) _)) (RTs.on HP2_2.out (Ext.alloc (Ext.refl w2) _))).mono ?_) | fail); rintro e w3 ⟨v3,rfl,hp3,hx3⟩; (first | (have HX3:=hid (HX2.out.trans hx3)) | (have HX3:=hid ((HX2.out.alloc _).trans hx3)) | fail); (first | (have BX:=hid (BX.out.ext hx3)) | (have BX:=hid (z62 HX2.out hx3)) | skip); have HP3_3:=hid hp3; obtain ⟨a3,c3,rfl⟩:=hp3.form; clear hx3 hp3)
     | (go_at_call 20; (first | (with_reducible refine (C4.out w3 _  HP3_3.out).mono ?_) | (with_reducible refine (C4.out _ _  (RTs.on HP3_3.out (Ext.alloc (Ext.refl w3) _))).mono ?_) | fail); rintro e w4 ⟨v4,rfl,hp4,hx4⟩; (first | (have HX4:=hid (HX3.out.trans hx4)) | (have HX4:=hid ((HX3.out.alloc _).trans hx4)) | fail); (first | (have BX:=hid (BX.out.ext hx4)) | (have BX:=hid (z62 HX3.out hx4)) | skip); have HP4_4:=hid hp4; obtain ⟨a4,c4,rfl⟩:=hp4.form; clear hx4 hp4)
     | (go_at_call 9; (first | (with_reducible refine (C5.out w4 _ HX4.out HP4_4.out).mono ?_) | (with_reducible refine (C5.out _ _ (HX4.out.alloc _) (z0h.on HP4_4.out (Ext.alloc (Ext.refl w4) _))).mono ?_) | fail); rintro e w5 ⟨v5,rfl,⟨vn,vp,rfl,hs,ht⟩,hx5⟩; (try (have BX0:=BX)); (first | (have HX5:=hid (HX4.out.trans hx5)) | (have HX5:=hid ((HX4.out.alloc _).trans hx5)) | fail); (first | (have BX:=hid (BX.out.ext hx5)) | (have BX:=hid (z62 HX4.out hx5)) | skip); (try (obtain ⟨y0,y1,y2,yf0,yf1,yf2,-⟩:=BX.out)); have HS:=hid hs; have HT:=hid ht; have HXL:=hid hx5; obtain ⟨an,cn,rfl⟩:=hs.form; obtain ⟨ap,cp,rfl⟩:=ht.form; clear hx5 hs ht)
     | fail)
   all_goals
    go_wp2_with fail
    go_meet
    first
     | exact ⟨_,_,_,_,_,rfl,rfl,hid (SV.put BX.out HX5.out (HS.out.to (Kept.refl _ _) (fun k hk => ⟨hk.2,fun e => by have h1:=hk.1; rw [size_alloc] at h1; omega⟩)) (HT.out.to (Kept.refl _ _) (fun k hk => ⟨hk.2,fun e => by have h1:=hk.1; rw [size_alloc] at h1; omega⟩)))⟩
     | exact ⟨_,_,_,_,_,rfl,rfl,hid (SV.put BX.out HX5.out (HS.out.to (Kept.refl _ _) (fun k hk => ⟨hk.2,fun e => by have h1:=hk.1; have h2:=z08 BX0.out.c0; omega⟩)) (HT.out.to (Kept.refl _ _) (fun k hk => ⟨hk.2,fun e => by have h1:=hk.1; have h2:=z08 BX0.out.c0; omega⟩)))⟩
     | exact ⟨_,_,_,_,_,rfl,rfl,hid (SV.fresh HX5.out (HS.out.to (Kept.refl _ _) (fun k hk => hk.2)) (HT.out.to (Kept.refl _ _) (fun k hk => hk.2)) _)⟩
     | fail
  case rest =>
   obtain ⟨b8,an8,cn8,ap8,cp8,rfl,rfl,HSV3⟩:=hcut
   have HSV:=hid (HSV.out.ext HSV3.out.1)
   have HSV2:=hid (HSV2.out.ext HSV3.out.1)
   have HX7:=hid (HX1.out.trans (HXA.out.trans (HX6.out.trans HSV3.out.1)))
   obtain ⟨-,-,⟨p0,p1,-⟩,ps,-⟩:=HSV.out
   obtain ⟨-,-,⟨q0,-,-⟩,-,-⟩:=HSV2.out
   obtain ⟨-,-,⟨r0,r1,-⟩,rs,-⟩:=HSV3.out
   have ea:sA.pts.length = 2:=by rw [HSAE.out]; rfl
   have ec:sC.pts.length = 3:=by rw [HSCE.out]; rfl
   rw [ea] at p1 ps
   rw [ec] at r1 rs
   obtain ⟨ba,oa,rfl,-,ha1,ha2,-,hpa⟩:=ps.cellAt (k:=0) (x:=nA) (by rw [HSAE.out]; rfl)
   obtain ⟨bc,oc,rfl,-,hc1,hc2,-,hpc⟩:=rs.cellAt (k:=0) (x:=nA) (by rw [HSCE.out]; rfl)
   have x1:=z7n (wd:=sA.word) (by rw [HSAE.out])
   have x2:=za7 (wd:=sC.word) (by rw [HSCE.out])
   have x3:(sB.word.toList == []) = true:=by rw [HSBE.out,ztz,ByteArray.toList_eq]; rfl
   have x4:(nA.toList == [65]) = true:=by kernel_rfl
   clear ea ec ps rs
   simp only [Nat.add_zero] at hpa hpc
   go_wp2
   all_goals
    go_ret
    exact ⟨rfl,HX7.out⟩
end
section
open Go.RowKit
def ze8 (T:Int) (p:PZ):PZ:=p.map fun t => (T * t.1,t.2)
theorem zfw (p:PZ):ze8 (sgC p) (z0l p) = p:=by
 unfold ze8 z0l
 rw [List.map_map]
 have e:p.map ((fun t:Int × Mono => (sgC p * t.1,t.2)) ∘ fun t => (t.1 / sgC p,t.2)) = p.map id:=List.map_congr_left (fun t ht => by
  show (sgC p * (t.1 / sgC p),t.2) = t
  rw [Int.mul_comm,z60 ht])
 rw [e,List.map_id]
theorem ze9 {x:Lay} {p:PZ} {names:List ByteArray} {wd:ByteArray} {row:List ByteArray}:∀ {l:List (ByteArray × Nat)},z8s x p names l = some (wd,row) → ∃ m k,(wd,m) ∈ l ∧ k < names.length ^ m ∧ row = rowK names m k ∧ hitP x p wd row = true
 | [],h => by cases h
 | (w,m) :: r,h => by
  unfold z8s at h
  split at h
  ·next row' e =>
   have e1:=Option.some.inj h
   obtain rfl:w = wd:=congrArg Prod.fst e1
   obtain rfl:row' = row:=congrArg Prod.snd e1
   unfold hitW at e
   obtain ⟨k,hk,rfl⟩:=Option.map_eq_some_iff.1 e
   exact ⟨m,k,List.mem_cons_self ..,List.mem_range.1 (List.mem_of_find?_eq_some hk),rfl,by simpa using List.find?_some hk⟩
  ·obtain ⟨m',k,h1,h2⟩:=ze9 h
   exact ⟨m',k,List.mem_cons_of_mem _ h1,h2⟩
theorem z8c (x:Lay) (p:PZ):((z1s x p).word = ByteArray.empty ∧ (z1s x p).pts = []) ∨ ∃ m k,((z1s x p).word,m) ∈ z4r ∧ 2 ≤ (z0q x (ofP p)).length ∧ (z0q x (ofP p)).length ≤ 6 ∧ k < (z0q x (ofP p)).length ^ m ∧ (z1s x p).pts = rowK (z0q x (ofP p)) m k ∧ hitP x p (z1s x p).word (z1s x p).pts = true:=by
 by_cases hb:(z0q x (ofP p)).length < 2 ∨ 6 < (z0q x (ofP p)).length
 ·left
  unfold z1s
  rw [if_pos hb]
  exact ⟨rfl,rfl⟩
 ·cases ht:z8s x p (z0q x (ofP p)) z4r with
  | none => rw [ze4 hb ht]; exact .inl ⟨rfl,rfl⟩
  | some r =>
   obtain ⟨wd,row⟩:=r
   rw [z61 hb ht]
   obtain ⟨m,k,h1,h2,rfl,h3⟩:=ze9 ht
   exact .inr ⟨m,k,h1,by omega,by omega,h2,rfl,h3⟩
theorem zja (x:Lay) (p:PZ):((z1s x p).word.toList == []) = ((((z1s x p).pts.length:Nat):Int) == 0):=by
 rcases z8c x p with ⟨h1,h2⟩ | ⟨m,k,h1,_,_,_,h2,_⟩
 ·rw [h1,h2]
  rw [ByteArray.toList_eq]
  rfl
 ·rw [h2,z3a]
  unfold z4r at h1
  simp only [List.mem_cons,List.not_mem_nil,or_false,Prod.mk.injEq] at h1
  rcases h1 with ⟨e,rfl⟩ | ⟨e,rfl⟩ | ⟨e,rfl⟩ | ⟨e,rfl⟩ <;> rw [e] <;> kernel_rfl
end
section
open Go.RowKit
end
section
open Go.RowKit
theorem zu7 {wd:ByteArray} {m:Nat} (h:(wd,m) ∈ z4r):(wd.toList == []) = false:=by
 unfold z4r at h
 simp only [List.mem_cons,List.not_mem_nil,or_false,Prod.mk.injEq] at h
 rcases h with ⟨rfl,rfl⟩ | ⟨rfl,rfl⟩ | ⟨rfl,rfl⟩ | ⟨rfl,rfl⟩ <;> kernel_rfl
theorem zfx (x:Lay) (p:PZ):(z1s x p).word.size ≤ 1000 ∧ (z1s x p).pts.length ≤ 1000:=by
 rcases z8c x p with ⟨h1,h2⟩ | ⟨m,k,h1,_,_,_,h3,_⟩
 ·rw [h1,h2]
  exact ⟨by decide,by decide⟩
 ·rw [h3,z3a]
  simp only [z4r,List.mem_cons,List.not_mem_nil,or_false,Prod.mk.injEq] at h1
  rcases h1 with ⟨h1,h2⟩ | ⟨h1,h2⟩ | ⟨h1,h2⟩ | ⟨h1,h2⟩ <;> rw [h1,h2] <;> exact ⟨by decide,by decide⟩
theorem zjb {x:Lay} {ts:List RTerm} (h:¬(mayT ts = false ∨ ts = [])):z8b x ts = (0,z1s x (z0l (z21 ts))):=if_neg h
theorem zn5 {x:Lay} {ts:List RTerm} (h:mayT ts = false ∨ ts = []):z8b x ts = (2,⟨ByteArray.empty,[],[]⟩):=if_pos h
theorem zsk:∀ c ∈ lay3.ats,Ok2 c:=by
 intro c hc
 simp only [lay3,List.mem_cons,List.not_mem_nil,or_false] at hc
 rcases hc with rfl | rfl | rfl <;> (unfold Ok2; decide)
end
section
open Go.RowKit
def spQ (pts:List (RInt × RInt)) (c:Int × Int):Rat × Rat:=(ptq pts c.1,ptq pts c.2)
section
variable {pts:List (RInt × RInt)}
theorem zn6 (v:Int):evQ (gM pts) (varP v) = ptq pts v:=by
 unfold varP
 simp only [evQ,gM,powQ]
 rw [show (1:Int).toNat = 1 from rfl,show ((1:Int):Rat) = 1 from rfl,Rat.one_mul,Rat.mul_one,Rat.add_zero,Rat.pow_succ,Rat.pow_zero,Rat.one_mul]
theorem zq1 (p:PZ):evQ (gM pts) (negP p) = -evQ (gM pts) p:=by
 induction p with
 | nil => simp [negP,evQ,Rat.neg_zero]
 | cons t r ih =>
  show ((-t.1:Int):Rat) * gM pts t.2 + evQ (gM pts) (negP r) = -((t.1:Rat) * gM pts t.2 + evQ (gM pts) r)
  rw [ih,Rat.neg_add,Rat.intCast_neg,Rat.neg_mul]
theorem zn7 {p q:PZ} (hp:canP p) (hq:canP q):evQ (gM pts) (subP p q) = evQ (gM pts) p - evQ (gM pts) q:=by
 unfold subP
 rw [zfc (zbp (z6m hp.may (z7l hq).may)),z6j,zq1,Rat.sub_eq_add_neg]
theorem zq2 {p q:PZ} (hp:canP p) (hq:canP q):evQ (gM pts) (zfo p q) = evQ (gM pts) p + evQ (gM pts) q:=by
 unfold zfo
 rw [zfc (zbp (z6m hp.may hq.may)),z6j]
theorem zq3 {p q:PZ} (hp:LinM p) (hq:LinM q):z0p (mulL p q):=fun t ht => by
 unfold mulL at ht
 obtain ⟨x,hx,h2⟩:=List.mem_flatMap.1 ht
 obtain ⟨y,hy,rfl⟩:=List.mem_map.1 h2
 obtain ⟨a,ha,ea⟩:=hp x hx
 obtain ⟨b,hb,eb⟩:=hq y hy
 simp only [ea,eb]
 refine (z7i (z86 ha (by decide)) (z86 hb (by decide))).2 (fun u => ?_)
 rw [zgp,zgp]
 split <;> split <;> omega
theorem zsl {p q:PZ} (hp:canP p) (hq:canP q) (lp:LinM p) (lq:LinM q):evQ (gM pts) (mulP p q) = evQ (gM pts) p * evQ (gM pts) q:=by
 unfold mulP
 rw [zfc (zbp (zq3 lp lq)),zs2 pts (zde hp.may) (zde hq.may)]
theorem zn8 {a b:Int} (ha:1 ≤ a ∧ a ≤ 200) (hb:1 ≤ b ∧ b ≤ 200):evQ (gM pts) (linP a b) = ptq pts b - ptq pts a:=by
 unfold linP
 rw [zn7 (z29 hb).can (z29 ha).can,zn6,zn6]
theorem zhe {a b c d:Int} (ha:1 ≤ a ∧ a ≤ 200) (hb:1 ≤ b ∧ b ≤ 200) (hc:1 ≤ c ∧ c ≤ 200) (hd:1 ≤ d ∧ d ≤ 200):evQ (gM pts) (mulP (linP a b) (linP c d)) = (ptq pts b - ptq pts a) * (ptq pts d - ptq pts c):=by
 rw [zsl (z0x ha hb).can (z0x hc hd).can (z0y ha hb) (z0y hc hd),zn8 ha hb,zn8 hc hd]
theorem zhf {A B C D:Int × Int} (hA:Ok2 A) (hB:Ok2 B) (hC:Ok2 C) (hD:Ok2 D):evQ (gM pts) (z53 A B C D) = z8o (spQ pts A) (spQ pts B) (spQ pts C) (spQ pts D):=by
 unfold z53 z8o spQ
 rw [zn7 (z2p (z0x hA.1 hB.1) (z0x hC.2 hD.2) (z0y hA.1 hB.1) (z0y hC.2 hD.2)).can (z2p (z0x hA.2 hB.2) (z0x hC.1 hD.1) (z0y hA.2 hB.2) (z0y hC.1 hD.1)).can,zhe hA.1 hB.1 hC.2 hD.2,zhe hA.2 hB.2 hC.1 hD.1]
theorem zqu {A B C D:Int × Int} (hA:Ok2 A) (hB:Ok2 B) (hC:Ok2 C) (hD:Ok2 D):evQ (gM pts) (dotP A B C D) = dotQ (spQ pts A) (spQ pts B) (spQ pts C) (spQ pts D):=by
 unfold dotP dotQ spQ
 rw [zq2 (z2p (z0x hA.1 hB.1) (z0x hC.1 hD.1) (z0y hA.1 hB.1) (z0y hC.1 hD.1)).can (z2p (z0x hA.2 hB.2) (z0x hC.2 hD.2) (z0y hA.2 hB.2) (z0y hC.2 hD.2)).can,zhe hA.1 hB.1 hC.1 hD.1,zhe hA.2 hB.2 hC.2 hD.2]
theorem zsm {wd:ByteArray} {cs:List (Int × Int)} (hok:∀ c ∈ cs,Ok2 c) (hl:askW wd = some cs.length):evQ (gM pts) (z30 wd cs) = z6n wd (cs.map (spQ pts)):=by
 have ok:∀ j,Ok2 (cs.getD j (1,1)):=z23 hok
 have hg:∀ j,j < cs.length → (cs.map (spQ pts)).getD j (0,0) = spQ pts (cs.getD j (1,1)):=fun j hj => by
  simp [List.getD_eq_getElem?_getD,hj]
 unfold z30 z6n
 unfold askW at hl
 by_cases hU:wd = z0z
 ·rw [if_pos hU] at hl
  have hn:=(Option.some.inj hl).symm
  rw [if_pos hU,if_pos hU,zqu (ok _) (ok _) (ok _) (ok _),hg 0 (by omega),hg 1 (by omega)]
 ·rw [if_neg hU] at hl
  rw [if_neg hU,if_neg hU]
  by_cases hP:wd = z1a
  ·rw [if_pos hP] at hl
   have hn:=(Option.some.inj hl).symm
   rw [if_pos hP,if_pos hP,zhf (ok _) (ok _) (ok _) (ok _),hg 0 (by omega),hg 1 (by omega),hg 2 (by omega)]
  ·rw [if_neg hP] at hl
   rw [if_neg hP,if_neg hP]
   have hn:cs.length = 4:=by
    split at hl
    ·exact (Option.some.inj hl).symm
    ·split at hl
     ·exact (Option.some.inj hl).symm
     ·cases hl
   by_cases hC:wd = z1j
   ·rw [if_pos hC,if_pos hC,zhf (ok _) (ok _) (ok _) (ok _),hg 0 (by omega),hg 1 (by omega),hg 2 (by omega),hg 3 (by omega)]
   ·rw [if_neg hC,if_neg hC,zqu (ok _) (ok _) (ok _) (ok _),hg 0 (by omega),hg 1 (by omega),hg 2 (by omega),hg 3 (by omega)]
theorem zq4 (c:Int) (p:PZ):evQ (gM pts) (ze8 c p) = (c:Rat) * evQ (gM pts) p:=by
 induction p with
 | nil => simp [ze8,evQ,Rat.mul_zero]
 | cons t r ih =>
  show ((c * t.1:Int):Rat) * gM pts t.2 + evQ (gM pts) (ze8 c r) = (c:Rat) * ((t.1:Rat) * gM pts t.2 + evQ (gM pts) r)
  rw [ih,Rat.intCast_mul,Rat.mul_add,Rat.mul_assoc]
theorem zfy {a b:Rat} (ha:a ≠ 0):a * b = 0 ↔ b = 0:=by
 constructor
 ·intro h
  have h2:a⁻¹ * (a * b) = a⁻¹ * 0:=by rw [h]
  rw [← Rat.mul_assoc,Rat.mul_comm a⁻¹ a,Rat.mul_inv_cancel _ ha,Rat.one_mul,Rat.mul_zero] at h2
  exact h2
 ·intro h
  rw [h,Rat.mul_zero]
theorem zc6 {P:PZ} (hP:canP P) (h0:P ≠ []):evQ (gM pts) (z0l P) = 0 ↔ evQ (gM pts) P = 0:=by
 conv => rhs; rw [← zfw P]
 rw [zq4]
 exact (zfy (fun e => zqq hP h0 (Rat.intCast_eq_zero_iff.1 e))).symm
end
theorem zb2 {x:Lay}:∀ {l:List ByteArray} {cs:List (Int × Int)},z0n x l = some cs → cs.length = l.length
 | [],cs,h => by
  obtain rfl:[] = cs:=by simpa [z0n] using h
  rfl
 | n :: r,cs,h => by
  unfold z0n at h
  cases h1:z2d x n with
  | none => rw [h1] at h; cases h
  | some c =>
   cases h2:z0n x r with
   | none => rw [h1,h2] at h; cases h
   | some l =>
    rw [h1,h2] at h
    obtain rfl:=Option.some.inj h
    rw [List.length_cons,List.length_cons,zb2 h2]
theorem zea {x:Lay}:∀ {l:List ByteArray} {cs:List (Int × Int)} {j:Nat} {nm:ByteArray},z0n x l = some cs → l[j]? = some nm → ∃ c,cs[j]? = some c ∧ z2d x nm = some c
 | [],cs,j,nm,h,hj => by simp at hj
 | n :: r,cs,j,nm,h,hj => by
  unfold z0n at h
  cases h1:z2d x n with
  | none => rw [h1] at h; cases h
  | some c =>
   cases h2:z0n x r with
   | none => rw [h1,h2] at h; cases h
   | some l =>
    rw [h1,h2] at h
    obtain rfl:=Option.some.inj h
    cases j with
    | zero =>
     obtain rfl:n = nm:=by simpa using hj
     exact ⟨c,rfl,h1⟩
    | succ j =>
     obtain ⟨c',h3,h4⟩:=zea (l:=r) (j:=j) h2 (by simpa using hj)
     exact ⟨c',by simpa using h3,h4⟩
theorem zjc {P:PZ} {pts:List (RInt × RInt)} (hP:canP P) (h0:P ≠ []) (hw:((z1s lay3 (z0l P)).word.toList == []) = false) :
  ∃ cs,askW (z1s lay3 (z0l P)).word = some cs.length ∧ (z1s lay3 (z0l P)).pts.length = cs.length ∧ z0n lay3 (z1s lay3 (z0l P)).pts = some cs ∧ (z6n (z1s lay3 (z0l P)).word (cs.map (spQ pts)) = 0 ↔ evQ (gM pts) P = 0):=by
 rcases z8c lay3 (z0l P) with ⟨h1,h2⟩ | ⟨m,k,h1,_,_,_,_,h3⟩
 ·rw [h1,ByteArray.toList_eq] at hw
  cases hw
 ·obtain ⟨T,hT⟩:∃ T,T = z1s lay3 (z0l P):=⟨_,rfl⟩
  rw [← hT] at h3 ⊢
  unfold hitP at h3
  simp only [Bool.and_eq_true,decide_eq_true_eq,Bool.not_eq_true',List.isEmpty_eq_false_iff] at h3
  obtain ⟨⟨g1,g2⟩,g3⟩:=h3
  obtain ⟨er,q,hq⟩:∃ er q,z2h lay3 T.word T.pts = (er,q):=⟨_,_,rfl⟩
  rw [hq] at g1 g2 g3
  simp only at g1 g2 g3
  subst g1
  have hq2:=hq
  unfold z2h at hq2
  cases ha:askW T.word with
  | none => rw [ha] at hq2; cases hq2
  | some n =>
   cases hc:z0n lay3 T.pts with
   | none => rw [ha,hc] at hq2; cases hq2
   | some cs =>
    rw [ha,hc] at hq2
    simp only at hq2
    have hl:=zb2 hc
    split at hq2
    ·next hn =>
     obtain rfl:z30 T.word cs = q:=by simpa using hq2
     have hok:∀ c ∈ cs,Ok2 c:=fun c h => by
      have h2:=z3j hc c h
      simp only [lay3,List.mem_cons,List.not_mem_nil,or_false] at h2
      rcases h2 with rfl | rfl | rfl <;> (unfold Ok2; decide)
     refine ⟨cs,by rw [hl,hn],hl.symm,rfl,?_⟩
     rw [← zsm hok (by rw [ha,hl,hn])]
     have hcq:Fit 10 8 (z30 T.word cs):=z4q T.word hok
     rw [← zc6 hcq.can g2,g3,zc6 hP h0]
    ·cases hq2
end
section
open Go.RowKit
structure Six where
 g:Nat → Bool
 a:Nat → Option Addr
 l:Nat → Nat
 c:Nat → Nat
 h:Nat → Bool
 b:Nat → Option Addr
 m:Nat → Nat
 d:Nat → Nat
 x:Nat → RInt × RInt
def Six.q (s:Six) (k:Nat):List Value:=[.bool (s.g k),.slice (s.a k) (s.l k) (s.c k),.bool (s.h k),.slice (s.b k) (s.m k) (s.d k)]
def Six.v (s:Six):Value:=.agg #[.bool (s.g 0),.slice (s.a 0) (s.l 0) (s.c 0),.bool (s.h 0),.slice (s.b 0) (s.m 0) (s.d 0),.bool (s.g 1),.slice (s.a 1) (s.l 1) (s.c 1),.bool (s.h 1),.slice (s.b 1) (s.m 1) (s.d 1),.bool (s.g 2),.slice (s.a 2) (s.l 2) (s.c 2),.bool (s.h 2),.slice (s.b 2) (s.m 2) (s.d 2),.bool (s.g 3),.slice (s.a 3) (s.l 3) (s.c 3),.bool (s.h 3),.slice (s.b 3) (s.m 3) (s.d 3),.bool (s.g 4),.slice (s.a 4) (s.l 4) (s.c 4),.bool (s.h 4),.slice (s.b 4) (s.m 4) (s.d 4),.bool (s.g 5),.slice (s.a 5) (s.l 5) (s.c 5),.bool (s.h 5),.slice (s.b 5) (s.m 5) (s.d 5)]
def Six.s8 (s:Six) (i:Nat):Value:=.agg #[.bool (s.g (2 * i)),.slice (s.a (2 * i)) (s.l (2 * i)) (s.c (2 * i)),.bool (s.h (2 * i)),.slice (s.b (2 * i)) (s.m (2 * i)) (s.d (2 * i)),.bool (s.g (2 * i + 1)),.slice (s.a (2 * i + 1)) (s.l (2 * i + 1)) (s.c (2 * i + 1)),.bool (s.h (2 * i + 1)),.slice (s.b (2 * i + 1)) (s.m (2 * i + 1)) (s.d (2 * i + 1))]
def Six.r4 (s:Six) (k:Nat):Value:=.agg #[.bool (s.g k),.slice (s.a k) (s.l k) (s.c k),.bool (s.h k),.slice (s.b k) (s.m k) (s.d k)]
structure SixAt (w:World) (s:Six):Prop where
 g:∀ k,k < 6 → s.g k = (s.x k).1.neg
 h:∀ k,k < 6 → s.h k = (s.x k).2.neg
 l:∀ k,k < 6 → s.l k = (s.x k).1.mag.length
 m:∀ k,k < 6 → s.m k = (s.x k).2.mag.length
 u:∀ k,k < 6 → U32s (Old w) w (.slice (s.a k) (s.l k) (s.c k)) (s.x k).1.mag
 v:∀ k,k < 6 → U32s (Old w) w (.slice (s.b k) (s.m k) (s.d k)) (s.x k).2.mag
theorem zn9 (s:Six) (i:Nat) (hi:i < 3) (w:World):(Instr.index 31 s.v (.int .i64 (i:Nat))).run Tryz.prog w = .ok (s.s8 i) w:=by
 rcases (show i = 0 ∨ i = 1 ∨ i = 2 by omega) with rfl | rfl | rfl <;> kernel_rfl
theorem zna (s:Six) (i j:Nat) (hj:j < 2) (w:World):(Instr.index 45 (s.s8 i) (.int .i64 (j:Nat))).run Tryz.prog w = .ok (s.r4 (2 * i + j)) w:=by
 rcases (show j = 0 ∨ j = 1 by omega) with rfl | rfl <;> kernel_rfl
theorem Tryz.infoRatR:(Tryz.prog.info? 28).map (fun i => (i.zero,i.size,i.bytes)) = some (some (.agg #[.bool false,.slice none 0 0,.bool false,.slice none 0 0]),4,64):=by kernel_rfl
theorem Tryz.infoSpotR:(Tryz.prog.info? 67).map (fun i => (i.zero,i.size,i.bytes)) = some (some (.agg #[.bool false,.slice none 0 0,.bool false,.slice none 0 0,.bool false,.slice none 0 0,.bool false,.slice none 0 0]),8,128):=by kernel_rfl
def Six.cs (s:Six) (n:Nat):List Value:=(List.range n).flatMap s.q
theorem Six.cs_succ (s:Six) (n:Nat):s.cs (n + 1) = s.cs n ++ s.q n:=by
 unfold Six.cs
 rw [List.range_succ,List.flatMap_append]
 simp
def Six.pts (s:Six):List (RInt × RInt):=[s.x 0,s.x 1,s.x 2,s.x 3,s.x 4,s.x 5]
theorem Six.pts_at (s:Six) {k:Nat} (h:k < 6):s.pts[k]? = some (s.x k):=by
 rcases (show k = 0 ∨ k = 1 ∨ k = 2 ∨ k = 3 ∨ k = 4 ∨ k = 5 by omega) with rfl | rfl | rfl | rfl | rfl | rfl <;> rfl
theorem zq5 {w w0:World} {s:Six} {base:Nat} {e:TypeId} {v:Value} (hs:SixAt w0 s) (hx:Ext w0 w) (h:w.ownsRow base e 4 v 6 (s.cs 6)):Rats (Old w) w v s.pts:=by
 have hlt:=h.lt
 rcases h.2 with ⟨rfl,h0⟩ | ⟨g,cap,cur,rfl,hg,hh,h1,h2,h3,h4⟩
 ·cases h0
 ·refine ⟨g,0,⟨_,cap,rfl,h1,h2,fun _ => rfl,fun _ => (hlt g rfl).2⟩,fun j r hj => ?_⟩
  have hj6:j < 6:=z03 hj
  have hr:r = s.x j:=by rw [s.pts_at hj6] at hj; exact (Option.some.inj hj).symm
  subst hr
  have hc:∀ i u,(s.cs 6)[i]? = some u → w.cell? ⟨g,i,none⟩ = some u:=fun i u hu => by
   have:=h.cellAt i (by have h1:=z03 hu; have h2:(s.cs 6).length = 24:=rfl; omega)
   rw [this,hu]
  have hk:∀ i,i < 4 → (s.cs 6)[j * 4 + i]? = (s.q j)[i]?:=fun i hi => by
   rcases (show j = 0 ∨ j = 1 ∨ j = 2 ∨ j = 3 ∨ j = 4 ∨ j = 5 by omega) with rfl | rfl | rfl | rfl | rfl | rfl <;>
    rcases (show i = 0 ∨ i = 1 ∨ i = 2 ∨ i = 3 by omega) with rfl | rfl | rfl | rfl <;> rfl
  refine ⟨.slice (s.a j) (s.l j) (s.c j),.slice (s.b j) (s.m j) (s.d j),?_,?_,?_,?_,(hs.u j hj6).to (Kept.ext hx (fun _ h => h)) (z2b hx),(hs.v j hj6).to (Kept.ext hx (fun _ h => h)) (z2b hx)⟩
  ·rw [Nat.zero_add]
   exact hc _ _ ((hk 0 (by decide)).trans (by show some (Value.bool (s.g j)) = _; rw [hs.g j hj6]))
  ·rw [Nat.zero_add]
   exact hc _ _ ((hk 1 (by decide)).trans rfl)
  ·rw [Nat.zero_add]
   exact hc _ _ ((hk 2 (by decide)).trans (by show some (Value.bool (s.h j)) = _; rw [hs.h j hj6]))
  ·rw [Nat.zero_add]
   exact hc _ _ ((hk 3 (by decide)).trans rfl)
theorem znb (s:Six) (k:Nat):∀ u ∈ (#[.bool (s.g k),.slice (s.a k) (s.l k) (s.c k),.bool (s.h k),.slice (s.b k) (s.m k) (s.d k)]:Array Value).toList,u.oneCell' = true:=by
 intro u hu
 simp at hu
 rcases hu with rfl | rfl | rfl | rfl <;> rfl
end
section
open Go.RowKit
theorem zsn {x:Nat} (h:x < B32 ^ 20):x < 10 ^ 200:=Nat.lt_of_lt_of_le h (by decide +kernel)
theorem zq6 {m:Mono}:∀ {l:Int},z0e l m = true → ∀ y ∈ m,l + 1 ≤ y.1 ∧ 1 ≤ y.2:=by
 induction m with
 | nil => intro l _ y hy; cases hy
 | cons x r ih =>
  intro l h y hy
  simp only [z0e,Bool.and_eq_true,decide_eq_true_eq] at h
  obtain ⟨⟨h1,-,h2,-⟩,h3⟩:=h
  rcases List.mem_cons.1 hy with rfl | hy
  ·exact ⟨by omega,h2⟩
  ·have:=ih h3 y hy
   exact ⟨by omega,this.2⟩
theorem zqv {P:PZ} {pts:List (RInt × RInt)} (hF:Fit 20 40 P) (h6:∀ t ∈ P,∀ z ∈ t.2,z.1 ≤ 6 ∧ z.2 ≤ 6) (hm:∀ t ∈ P,t.2.length ≤ 12) (hl:pts.length = 6) (hp:∀ x ∈ pts,x.1.mag.length ≤ 3 ∧ x.2.mag.length ≤ 3):AtOk pts P 200 6 12 40:=by
 refine ⟨fun t ht => zsn (hF.2.1 t ht),fun t ht y hy => ?_,hm,hF.2.2,hp,by decide,by decide⟩
 have h1:=zq6 (hF.can.may t ht) y hy
 have h2:=h6 t ht y hy
 rw [hl]
 exact ⟨by have:=h1.1; omega,by have:=h2.1; omega,h1.2,by have:=h2.2; omega⟩
theorem zb3 {P:PZ} {t:Int × Mono} (h:t ∈ z0l P):∃ u ∈ P,u.2 = t.2:=by
 obtain ⟨u,hu,rfl⟩:=List.mem_map.1 h
 exact ⟨u,hu,rfl⟩
theorem zso {ts:List RTerm} {P:PZ} {s:Six} (hF:Fit 20 40 P) (hts:ts = ofP P) (h6:∀ t ∈ ts,∀ z ∈ t.m,z.1 ≤ 6 ∧ z.2 ≤ 6) (hm:∀ t ∈ ts,t.m.length ≤ 12) {W:World} (hs:SixAt W s) (hk:∀ j,j < 6 → s.l j ≤ 3 ∧ s.m j ≤ 3) :
  AtOk s.pts P 200 6 12 40 ∧ AtOk s.pts (z0l P) 200 6 12 40:=by
 have hmem:∀ u ∈ P,(⟨ofI u.1,u.2⟩:RTerm) ∈ ts:=fun u hu => by
  rw [hts]
  exact List.mem_map.2 ⟨u,hu,rfl⟩
 have hpt:∀ x ∈ s.pts,x.1.mag.length ≤ 3 ∧ x.2.mag.length ≤ 3:=fun x hx => by
  obtain ⟨j,hj⟩:=List.getElem?_of_mem hx
  have hj6:j < 6:=z03 hj
  rw [s.pts_at hj6] at hj
  obtain rfl:=Option.some.inj hj
  rw [← hs.l j hj6,← hs.m j hj6]
  exact hk j hj6
 have q6:∀ t ∈ P,∀ z ∈ t.2,z.1 ≤ 6 ∧ z.2 ≤ 6:=fun t ht => h6 _ (hmem t ht)
 have qm:∀ t ∈ P,t.2.length ≤ 12:=fun t ht => hm _ (hmem t ht)
 refine ⟨zqv hF q6 qm rfl hpt,zqv hF.whole (fun t ht => ?_) (fun t ht => ?_) rfl hpt⟩
 ·obtain ⟨u,hu,e⟩:=zb3 ht
  rw [← e]
  exact q6 u hu
 ·obtain ⟨u,hu,e⟩:=zb3 ht
  rw [← e]
  exact qm u hu
end
end Go.Proofs.YtbfflodidkfphaaGreat
