/- A row of memory that is sorted in place: what the worlds of a sort are. The insertion sort in place, at terms. Exchanges and rotations in place, at terms. The merge in place of two neighbours, at terms: one element ahead, or one behind. The merge in place of two neighbours, at terms. The stable sort in place, at terms: blocks of twenty, then merges. A slice of terms, copied, and sorted by falling monomials. -/
import Derived.Shelf.SlSortFuncK.RowK2
import Derived.Shelf.SlicesQ.Reverse
import Derived.Deep.DeepCutAuto
import Derived.Test.YtbfflodidkfphaaGreatSe7
set_option maxRecDepth 100000
set_option maxHeartbeats 16000000
namespace Go.Proofs.YtbfflodidkfphaaGreat
section
open Go.RowKit Go.Sort
theorem zdl {w W W':World} {row:Option Nat} (h:w.grownBy W row) (hx:Ext W W'):w.grownBy W' row :=
 ⟨hx.os.trans h.os,hx.tape.trans h.tape,hx.output.trans h.output,Nat.le_trans h.size hx.size,fun i hi hne => (hx.block i (Nat.lt_of_lt_of_le hi h.size)).trans (h.block i hi hne)⟩
theorem ziv (w:World) (row:Option Nat):w.grownBy w row:=⟨rfl,rfl,rfl,Nat.le_refl _,fun _ _ _ => rfl⟩
theorem zm9 {w W:World} {b o:Nat} (h:w.grownBy W (some b)) (u:Value):w.grownBy (W.setCell ⟨b,o,none⟩ u) (some b) :=
 ⟨h.os,h.tape,h.output,by rw [z06]; exact h.size,fun i hi hne => (Below.heap_setCell _ _ _ _ (fun e => hne (by rw [e]))).trans (h.block i hi hne)⟩
theorem zaz {w:World} {b:Nat} (vs:List Value):∀ (o:Nat) (W:World),w.grownBy W (some b) → w.grownBy (W.setCells b o vs) (some b):=by
 induction vs with
 | nil => exact fun _ _ h => h
 | cons v r ih => exact fun o W h => ih (o + 1) _ (zm9 h v)
theorem z5u {α:Type} (A B:List α) (x:α):(A ++ x :: B)[A.length]? = some x:=by simp
theorem z8l {α:Type} [Inhabited α] {l:List α} {i:Nat} {x:α} (h:l[i]? = some x):l.toArray[i]! = x:=by simp [h]
theorem zql {α:Type} [Inhabited α] (A M B:List α) (x y:α):swp (A ++ x :: M ++ y :: B).toArray A.length (A.length + 1 + M.length) = (A ++ y :: M ++ x :: B).toArray:=by
 have e0:(A ++ x :: M ++ y :: B)[A.length]? = some x:=by simp
 have e1:(A ++ x :: M ++ y :: B)[A.length + 1 + M.length]? = some y:=by
  rw [List.getElem?_append_right (by simp; omega)]
  simp [show A.length + 1 + M.length - (A.length + (M.length + 1)) = 0 by omega]
 unfold swp
 rw [z8l e0,z8l e1]
 rw [List.setIfInBounds_toArray,List.setIfInBounds_toArray]
 congr 1
 rw [show (A ++ x :: M ++ y :: B).set A.length y = A ++ y :: M ++ y :: B by rw [List.append_assoc,List.set_append_right _ _ (Nat.le_refl _)]; simp]
 rw [List.set_append_right _ _ (by simp; omega)]
 simp [show A.length + 1 + M.length - (A.length + (M.length + 1)) = 0 by omega]
theorem zgu {α:Type} [Inhabited α] (A M B:List α) (x y:α):swp (A ++ x :: M ++ y :: B).toArray (A.length + 1 + M.length) A.length = (A ++ y :: M ++ x :: B).toArray:=by
 have e0:(A ++ x :: M ++ y :: B)[A.length]? = some x:=by simp
 have e1:(A ++ x :: M ++ y :: B)[A.length + 1 + M.length]? = some y:=by
  rw [List.getElem?_append_right (by simp; omega)]
  simp [show A.length + 1 + M.length - (A.length + (M.length + 1)) = 0 by omega]
 unfold swp
 rw [z8l e0,z8l e1]
 rw [List.setIfInBounds_toArray,List.setIfInBounds_toArray]
 congr 1
 rw [show (A ++ x :: M ++ y :: B).set (A.length + 1 + M.length) x = A ++ x :: M ++ x :: B by
  rw [List.set_append_right _ _ (by simp; omega)]
  simp [show A.length + 1 + M.length - (A.length + (M.length + 1)) = 0 by omega]]
 rw [List.append_assoc,List.set_append_right _ _ (Nat.le_refl _)]
 simp
section
variable {α:Type} [Inhabited α] {enc:α → List Value} {k:Nat}
structure SortAt (enc:α → List Value) (k:Nat) (w:World) (b o:Nat) (d:List α) (W:World):Prop where
 grown:w.grownBy W (some b)
 holds:HoldsK enc k W b o d.toArray
 old:b < w.heap.size
variable {w W W':World} {b o:Nat} {d:List α}
theorem SortAt.later (h:SortAt enc k w b o d W) (hx:Ext W W'):SortAt enc k w b o d W' :=
 ⟨zdl h.grown hx,fun j hj => by
  have hb:b < W.heap.size:=Nat.lt_of_lt_of_le h.old h.grown.size
  have:=h.holds j hj
  exact ⟨(World.cell?_of_block (w:=W) (hx.block b hb)).trans this.1,(World.frozen?_of_block (w:=W) (hx.block b hb)).trans this.2⟩,h.old⟩
theorem SortAt.drew (h:SortAt enc k w b o d W):SortAt enc k w b o d W.drew:=h.later (Ext.refl W).drew
theorem SortAt.swap (h:SortAt enc k w b o d W) (hk:∀ x,(enc x).length = k) {d':List α} {i j:Nat} (hi:i < d.length) (hj:j < d.length) (hd:swp d.toArray i j = d'.toArray) :
  SortAt enc k w b o d' ((W.setCells b (o + i * k) (enc d.toArray[j]!)).setCells b (o + j * k) (enc d.toArray[i]!)):=by
 refine ⟨zaz _ _ _ (zaz _ _ _ h.grown),?_,h.old⟩
 have e:=putRowK_swp enc k hk W b o d.toArray i j (by simpa using hi) (by simpa using hj)
 rw [putRowK_self enc k W b o d.toArray h.holds,hd] at e
 rw [e]
 exact holdsK_putRowK enc k W b o d.toArray _ h.holds (by rw [← hd]; simp [size_swp])
theorem SortAt.cell (h:SortAt enc k w b o d W) {i c:Nat} {x:α} (hi:d[i]? = some x) (hc:c < k) :
  W.cell? ⟨b,o + i * k + c,none⟩ = some (enc x)[c]! ∧ W.frozen? ⟨b,o + i * k + c,none⟩ = false:=by
 have hl:=z03 hi
 have:=HoldsK.cell h.holds (i:=i) (c:=c) (by simpa using hl) hc
 rw [z8l hi] at this
 exact this
end
structure TCell where
 neg:Bool
 ma:Option Addr
 mn:Nat
 mc:Nat
 oa:Option Addr
 on:Nat
 oc:Nat
abbrev encT {α:Type} (tc:α → TCell) (x:α):List Value:=[.bool (tc x).neg,(.slice (tc x).ma (tc x).mn (tc x).mc),(.slice (tc x).oa (tc x).on (tc x).oc)]
section
variable {α:Type} [Inhabited α] {tc:α → TCell} {w W:World} {b o:Nat} {d:List α}
theorem SortAt.get3 (h:SortAt (encT tc) 3 w b o d W) {i:Nat} {x:α} (hi:d[i]? = some x) :
  (W.cell? ⟨b,o + i * 3,none⟩ = some (.bool (tc x).neg) ∧ W.cell? ⟨b,o + i * 3 + 1,none⟩ = some (.slice (tc x).ma (tc x).mn (tc x).mc) ∧ W.cell? ⟨b,o + i * 3 + 2,none⟩ = some (.slice (tc x).oa (tc x).on (tc x).oc)) ∧
  W.frozen? ⟨b,o + i * 3,none⟩ = false ∧ W.frozen? ⟨b,o + i * 3 + 1,none⟩ = false ∧ W.frozen? ⟨b,o + i * 3 + 2,none⟩ = false:=by
 have c0:=h.cell hi (c:=0) (by omega)
 have c1:=h.cell hi (c:=1) (by omega)
 have c2:=h.cell hi (c:=2) (by omega)
 exact ⟨⟨c0.1,c1.1,c2.1⟩,c0.2,c1.2,c2.2⟩
theorem SortAt.swap3 (h:SortAt (encT tc) 3 w b o d W) {d':List α} {i j:Nat} {x y:α} (hi:d[i]? = some x) (hj:d[j]? = some y) (hd:swp d.toArray i j = d'.toArray) :
  SortAt (encT tc) 3 w b o d' ((((((W.setCell ⟨b,o + i * 3,none⟩ (.bool (tc y).neg)).setCell ⟨b,o + i * 3 + 1,none⟩ (.slice (tc y).ma (tc y).mn (tc y).mc)).setCell ⟨b,o + i * 3 + 2,none⟩ (.slice (tc y).oa (tc y).on (tc y).oc)).setCell
   ⟨b,o + j * 3,none⟩ (.bool (tc x).neg)).setCell ⟨b,o + j * 3 + 1,none⟩ (.slice (tc x).ma (tc x).mn (tc x).mc)).setCell ⟨b,o + j * 3 + 2,none⟩ (.slice (tc x).oa (tc x).on (tc x).oc)):=by
 have:=h.swap (fun _ => rfl) (z03 hi) (z03 hj) hd
 rw [z8l hi,z8l hj] at this
 exact this
end
structure PCell where
 a:Option Addr
 n:Nat
 c:Nat
section
variable {α:Type} [Inhabited α] {pc:α → PCell} {w W:World} {b o:Nat} {d:List α}
end
end
section
open Go.RowKit Go.Sort
section
variable {α:Type} [Inhabited α] {tc:α → TCell} {w:World} {b o:Nat} {cf:α → α → Int} {le:α → α → Bool}
abbrev CmpT (g:Nat) (tc:α → TCell) (cf:α → α → Int) (w:World) (b:Nat):Prop :=
 ∀ W,w.grownBy W (some b) → ∀ x y:α,Calls Tryz.prog g #[.agg #[.bool (tc x).neg,.slice (tc x).ma (tc x).mn (tc x).mc,.slice (tc x).oa (tc x).on (tc x).oc],.agg #[.bool (tc y).neg,.slice (tc y).ma (tc y).mn (tc y).mc,.slice (tc y).oa (tc y).on (tc y).oc]] W fun e w' => e = .returned (.int .i64 (cf x y)) ∧ Ext W w'
structure CmpLe (cf:α → α → Int) (le:α → α → Bool):Prop where
 range:∀ x y,-1 ≤ cf x y ∧ cf x y ≤ 1
 eq:∀ x y,le y x = decide (0 ≤ cf x y)
 total:TotalLe le
theorem zfi (cap:Nat) (P X T:List α) (W:World) (hc:CmpT 163 tc cf w b) (hl:CmpLe cf le) (h:SortAt (encT tc) 3 w b o (P ++ X ++ T) W) (_hcap:(P ++ X ++ T).length ≤ cap) (hcap2:(P ++ X ++ T).length ≤ 1000000000000) :
  Calls Tryz.prog 177 #[.slice (some ⟨b,o,none⟩) (P ++ X ++ T).length cap,.int .i64 P.length,.int .i64 (P.length + X.length:Nat),.func (.func 163) #[] #[]] W
   fun e w' => e = .returned (.tuple #[]) ∧ SortAt (encT tc) 3 w b o (P ++ z20 le X ++ T) w':=by
 have H:=hid h
 have HC:=hid hc
 have HL:=hid hl
 clear h hc hl
 obtain ⟨n,hn⟩:∃ n,n = (P ++ X ++ T).length:=⟨_,rfl⟩
 obtain ⟨m,hm⟩:∃ m,m = P.length + X.length:=⟨_,rfl⟩
 obtain ⟨a,ha⟩:∃ a,a = P.length:=⟨_,rfl⟩
 rw [← hn] at _hcap hcap2 ⊢
 rw [← hm,← ha]
 have hmn:m ≤ n:=by rw [hm,hn]; simp
 have ham:a ≤ m:=by rw [ha,hm]; simp
 have HN:=hid hn
 have HA:=hid ha
 have HM:=hid hm
 clear hn ha hm
 cases X with
 | nil =>
  obtain rfl:m = a:=by rw [HM.out,HA.out]; simp
  go_enter Tryz.func177,Tryz.ntmps177
  go_wp2
  refine wp_loop_rounds 1 ?_
  rw [rounds_succ]
  go_wp2
  go_end0
  exact ⟨rfl,H.out⟩
 | cons x0 X =>
  have ham:a < m:=by rw [HA.out,HM.out]; simp
  go_enter Tryz.func177,Tryz.ntmps177
  go_wp2
  go_loopw [8] (fun vi wr => ∃ (i:Nat) (X1 X2:List α),vi = .int .i64 i ∧ a < i ∧ i ≤ m ∧ Hid (i = a + X1.length) ∧ Hid (x0 :: X = X1 ++ X2) ∧ SortAt (encT tc) 3 w b o (P ++ z20 le X1 ++ X2 ++ T) wr) (fun vi _ => m - (intOf vi).toNat)
  case atStart => exact ⟨a + 1,[x0],X,by go_num,by omega,by omega,rfl,rfl,by rw [z9w]; simpa using H.out⟩
  case round =>
   obtain ⟨i,X1,X2,rfl,hai,him,HI,HX,hs⟩:=hrel
   have HS:=hid hs
   clear hs
   by_cases hlt:i < m
   ·cases X2 with
    | nil =>
     exfalso
     have h1:=HI.out
     have h2:=congrArg List.length HX.out
     have h3:=HM.out
     have h4:=HA.out
     simp at h2 h3
     omega
    | cons x X2 =>
     go_wp2
     go_loopw [9] (fun vj wr2 => ∃ (j:Nat) (S1 S2:List α),vj = .int .i64 j ∧ a ≤ j ∧ j ≤ i ∧ Hid (j = a + S1.length) ∧ Hid (z20 le X1 = S1 ++ S2) ∧ Hid (∀ y ∈ S2,le y x = false) ∧ SortAt (encT tc) 3 w b o (P ++ S1 ++ x :: S2 ++ X2 ++ T) wr2) (fun vj _ => (intOf vj).toNat)
     case atStart => exact ⟨i,z20 le X1,[],rfl,by omega,Nat.le_refl _,by rw [HI.out,z10]; rfl,by show _ = _; simp,fun y hy => by simp at hy,by simpa using HS.out⟩
     case round =>
      obtain ⟨j,S1,S2,rfl,haj,hji,HJ,HSS,HS2,hs2⟩:=hrel
      rcases (show S1 = [] ∨ ∃ L z,S1 = L ++ [z] by simpa using List.eq_nil_or_concat S1) with rfl | ⟨S1',y,rfl⟩
      ·obtain rfl:j = a:=by rw [HJ.out]; rfl
       have hb:decide ((j:Int) > (j:Int)) = false:=by simp
       have HD:=hid hs2
       clear hs2
       go_wp2
       refine z04 (by kernel_rfl) (by kernel_rfl) ?_
       repeat (go_big_quiet_step (fail))
       refine wpQuiet_nil ?_
       intro W2 hW2
       have HD2:=hid (HD.out.later hW2)
       clear hW2
       go_wp2
       go_roundw
       case rel =>
        refine ⟨i + 1,X1 ++ [x],X2,by go_num,by omega,by omega,?_,?_,?_⟩
        ·show _ = _; have:=HI.out; simp; omega
        ·show _ = _; rw [HX.out]; simp
        ·have e:=z88 (le:=le) (S1:=[]) (S2:=S2) (x:=x) (by simp) HS2.out
         rw [z4m HL.out.total,z9w,HSS.out,e]
         have:=HD2.out
         simpa using this
       case measure => simp [intOf]; omega
      ·obtain ⟨jp,rfl⟩:∃ jp,j = jp + 1:=⟨j - 1,by have:=HJ.out; simp at this; omega⟩
       have hj:jp = (P ++ S1').length:=by have:=HJ.out; have:=HA.out; simp at *; omega
       have hjn:jp + 1 < n:=by omega
       have g0:(P ++ (S1' ++ [y]) ++ x :: S2 ++ X2 ++ T)[jp]? = some y:=by rw [hj]; simp
       have g1:(P ++ (S1' ++ [y]) ++ x :: S2 ++ X2 ++ T)[jp + 1]? = some x:=by
        rw [show jp + 1 = (P ++ S1' ++ [y]).length by simp [hj,Nat.add_assoc],show P ++ (S1' ++ [y]) ++ x :: S2 ++ X2 ++ T = (P ++ S1' ++ [y]) ++ (x :: (S2 ++ X2 ++ T)) by simp]
        exact z5u _ _ _
       have HD:=hid hs2
       have HG:=hid (And.intro g0 g1)
       have HJP:=hid hj
       have L0:=fun Y:Later wr => (hs2.later Y.h).get3 g0
       have L1:=fun Y:Later wr => (hs2.later Y.h).get3 g1
       have LC:=fun Y:Later wr => HC.out Y.w' (hs2.later Y.h).grown x y
       have a0:=fun Y => (L0 Y).1.1
       have a1:=fun Y => (L0 Y).1.2.1
       have a2:=fun Y => (L0 Y).1.2.2
       have b0:=fun Y => (L1 Y).1.1
       have b1:=fun Y => (L1 Y).1.2.1
       have b2:=fun Y => (L1 Y).1.2.2
       obtain ⟨r1,r2⟩:=HL.out.range x y
       have HLE:=hid (HL.out.eq x y)
       generalize cf x y = c at *
       have HLC:=hid LC
       clear L0 L1 LC hs2 g0 g1 hj
       by_cases hcc:c < 0
       ·have hle:le y x = false:=by rw [HLE.out]; exact decide_eq_false (by omega)
        have HLF:=hid hle
        clear hle
        have q1:(a:Int) < (jp:Int) + 1:=by have:=HJ.out; simp at this; omega
        have q2:(jp:Int) + 1 < (n:Int):=by omega
        have q3:(jp:Int) < (n:Int):=by omega
        have q4:(0:Int) ≤ (jp:Int) + 1:=by omega
        have q5:((jp:Int) + 1).toNat = jp + 1:=by omega
        have q6:IntKind.i64.wrap (jp:Int) = (jp:Int):=by rw [IntKind.wrap_i64]; omega
        go_wp2
        refine z04 (by kernel_rfl) (by kernel_rfl) ?_
        repeat (go_big_quiet_step (first | (go_at_call 163; exact Later.done (HLC.out _))))
        refine wpQuiet_nil ?_
        intro W2 hW2
        clear a0 a1 a2 b0 b1 b2
        have HD2:=hid (HD.out.later hW2)
        clear hW2
        obtain ⟨⟨c0,c1,c2⟩,f0,f1,f2⟩:=HD2.out.get3 HG.out.1
        obtain ⟨⟨d0,d1,d2⟩,k0,k1,k2⟩:=HD2.out.get3 HG.out.2
        have HD3:=hid (HD2.out.swap3 HG.out.2 HG.out.1 (d':=P ++ S1' ++ x :: (y :: S2) ++ X2 ++ T) (by
         have e:=zgu (P ++ S1') [] (S2 ++ X2 ++ T) y x
         simp only [List.append_assoc,List.cons_append,List.nil_append,List.length_nil,Nat.add_zero] at e ⊢
         rw [HJP.out]
         exact e))
        go_wp2
        go_big_region
        all_goals go_wp2
        go_roundw
        case rel =>
         refine ⟨jp,S1',y :: S2,rfl,?_,by omega,?_,?_,?_,?_⟩
         ·have:=HJ.out; simp at this; omega
         ·have:=HJ.out; simp at this; show _ = _; omega
         ·show _ = _; rw [HSS.out]; simp
         ·intro z hz
          rcases List.mem_cons.1 hz with rfl | hz
          ·exact HLF.out
          ·exact HS2.out z hz
         ·exact HD3.out.drew
        case measure => simp [intOf]
       ·have hle:le y x = true:=by rw [HLE.out]; exact decide_eq_true (by omega)
        have HLT:=hid hle
        clear hle
        have q1:(a:Int) < (jp:Int) + 1:=by have:=HJ.out; simp at this; omega
        have q2:(jp:Int) + 1 < (n:Int):=by omega
        have q3:(jp:Int) < (n:Int):=by omega
        have q4:(0:Int) ≤ (jp:Int) + 1:=by omega
        have q5:((jp:Int) + 1).toNat = jp + 1:=by omega
        have q6:IntKind.i64.wrap (jp:Int) = (jp:Int):=by rw [IntKind.wrap_i64]; omega
        have q7:¬ c < 0:=hcc
        go_wp2
        refine z04 (by kernel_rfl) (by kernel_rfl) ?_
        repeat (go_big_quiet_step (first | (go_at_call 163; exact Later.done (HLC.out _))))
        refine wpQuiet_nil ?_
        intro W2 hW2
        clear a0 a1 a2 b0 b1 b2
        have HD2:=hid (HD.out.later hW2)
        clear hW2
        go_wp2
        go_roundw
        case rel =>
         refine ⟨i + 1,X1 ++ [x],X2,by go_num,by omega,by omega,?_,?_,?_⟩
         ·show _ = _; have:=HI.out; simp; omega
         ·show _ = _; rw [HX.out]; simp
         ·have e:=z88 (le:=le) (S1:=S1' ++ [y]) (S2:=S2) (x:=x) (by
           refine z0w.last HL.out.total ?_ HLT.out
           have:=z2z HL.out.total X1
           rw [HSS.out] at this
           exact (List.pairwise_append.1 this).1) HS2.out
          rw [z4m HL.out.total,z9w,HSS.out,e]
          have:=HD2.out
          simpa using this
        case measure => simp [intOf]; omega
   ·obtain rfl:i = m:=by omega
    have hX2:X2 = []:=by
     have h1:=HI.out
     have h2:=congrArg List.length HX.out
     have h3:=HM.out
     have h4:=HA.out
     simp at h2 h3
     exact List.length_eq_zero_iff.1 (by omega)
    subst hX2
    have HF:Hid (SortAt (encT tc) 3 w b o (P ++ z20 le (x0 :: X) ++ T) wr):=by
     have h1:=HS.out
     have h2:=HX.out
     rw [List.append_nil] at h2
     rw [h2]
     exact hid (by simpa using h1)
    go_wp2
    go_end0
    exact ⟨rfl,HF.out⟩
end
end
section
open Go.RowKit Go.Sort
section
variable {α:Type} [Inhabited α] {tc:α → TCell} {w:World} {b o:Nat}
theorem zdm (cap:Nat) (P U M V Q:List α) (n:Nat) (cv:Value) (W:World) (hu:U.length = n) (hv:V.length = n) (h:SortAt (encT tc) 3 w b o (P ++ U ++ M ++ V ++ Q) W) (_hcap:(P ++ U ++ M ++ V ++ Q).length ≤ cap) (hcap2:(P ++ U ++ M ++ V ++ Q).length ≤ 1000000000000) :
  Calls Tryz.prog 184 #[.slice (some ⟨b,o,none⟩) (P ++ U ++ M ++ V ++ Q).length cap,.int .i64 P.length,.int .i64 (P.length + n + M.length:Nat),.int .i64 n,cv] W
   fun e w' => e = .returned (.tuple #[]) ∧ SortAt (encT tc) 3 w b o (P ++ V ++ M ++ U ++ Q) w':=by
 have H:=hid h
 have HU:=hid hu
 have HV:=hid hv
 clear h
 obtain ⟨l,hl⟩:∃ l,l = (P ++ U ++ M ++ V ++ Q).length:=⟨_,rfl⟩
 obtain ⟨m,hm⟩:∃ m,m = P.length + n + M.length:=⟨_,rfl⟩
 obtain ⟨a,ha⟩:∃ a,a = P.length:=⟨_,rfl⟩
 rw [← hl] at _hcap hcap2 ⊢
 rw [← hm,← ha]
 have hmn:m + n ≤ l:=by rw [hm,hl]; simp; omega
 have ham:a + n ≤ m:=by rw [ha,hm]; omega
 have HL:=hid hl
 have HA:=hid ha
 have HM:=hid hm
 clear hl ha hm hu hv
 go_enter Tryz.func184,Tryz.ntmps184
 go_wp2
 go_loopw [10] (fun vi wr => ∃ (i:Nat) (U1 U2 V1 V2:List α),vi = .int .i64 i ∧ i ≤ n ∧ Hid (i = U1.length) ∧ Hid (i = V1.length) ∧ Hid (U = U1 ++ U2) ∧ Hid (V = V1 ++ V2) ∧ SortAt (encT tc) 3 w b o (P ++ V1 ++ U2 ++ M ++ U1 ++ V2 ++ Q) wr) (fun vi _ => n - (intOf vi).toNat)
 case atStart => exact ⟨0,[],U,[],V,rfl,by omega,rfl,rfl,rfl,rfl,by simpa using H.out⟩
 case round =>
  obtain ⟨i,U1,U2,V1,V2,rfl,hin,HI,HI2,HUU,HVV,hs⟩:=hrel
  have HS:=hid hs
  clear hs
  by_cases hlt:i < n
  ·cases U2 with
   | nil =>
    exfalso
    have h1:=HI.out
    have h2:=HU.out
    rw [HUU.out] at h2
    simp at h2
    omega
   | cons x U2 =>
    cases V2 with
    | nil =>
     exfalso
     have h1:=HI2.out
     have h2:=HV.out
     rw [HVV.out] at h2
     simp at h2
     omega
    | cons y V2 =>
     have hx:a + i = (P ++ V1).length:=by have:=HA.out; have:=HI2.out; simp; omega
     have hy:m + i = (P ++ V1).length + 1 + (U2 ++ M ++ U1).length:=by
      have h1:=HI.out
      have h2:=HU.out
      have h3:=HM.out
      have h4:=HI2.out
      rw [HUU.out] at h2
      simp at h2 ⊢
      omega
     have g0:(P ++ V1 ++ x :: U2 ++ M ++ U1 ++ y :: V2 ++ Q)[a + i]? = some x:=by
      rw [hx,show P ++ V1 ++ x :: U2 ++ M ++ U1 ++ y :: V2 ++ Q = (P ++ V1) ++ x :: (U2 ++ M ++ U1 ++ y :: V2 ++ Q) by simp]
      exact z5u _ _ _
     have g1:(P ++ V1 ++ x :: U2 ++ M ++ U1 ++ y :: V2 ++ Q)[m + i]? = some y:=by
      rw [hy,show (P ++ V1).length + 1 + (U2 ++ M ++ U1).length = (P ++ V1 ++ x :: U2 ++ M ++ U1).length by simp; omega,show P ++ V1 ++ x :: U2 ++ M ++ U1 ++ y :: V2 ++ Q = (P ++ V1 ++ x :: U2 ++ M ++ U1) ++ y :: (V2 ++ Q) by simp]
      exact z5u _ _ _
     obtain ⟨⟨c0,c1,c2⟩,f0,f1,f2⟩:=HS.out.get3 g0
     obtain ⟨⟨d0,d1,d2⟩,k0,k1,k2⟩:=HS.out.get3 g1
     have HD:=hid (HS.out.swap3 g0 g1 (d':=P ++ V1 ++ y :: U2 ++ M ++ U1 ++ x :: V2 ++ Q) (by
      have e:=zql (P ++ V1) (U2 ++ M ++ U1) (V2 ++ Q) x y
      rw [hx,hy]
      simp only [List.append_assoc,List.cons_append] at e ⊢
      exact e))
     clear g0 g1 hx hy
     have q1:(a:Int) + (i:Int) < (l:Int):=by omega
     have q2:(m:Int) + (i:Int) < (l:Int):=by omega
     have q3:(0:Int) ≤ (a:Int) + (i:Int):=by omega
     have q4:(0:Int) ≤ (m:Int) + (i:Int):=by omega
     have q5:((a:Int) + (i:Int)).toNat = a + i:=by omega
     have q6:((m:Int) + (i:Int)).toNat = m + i:=by omega
     go_wp2
     go_big_region
     all_goals go_wp2
     go_roundw
     case rel =>
      refine ⟨i + 1,U1 ++ [x],U2,V1 ++ [y],V2,by go_num,by omega,?_,?_,?_,?_,?_⟩
      ·show _ = _; rw [HI.out]; simp
      ·show _ = _; rw [HI2.out]; simp
      ·show _ = _; rw [HUU.out]; simp
      ·show _ = _; rw [HVV.out]; simp
      ·have:=HD.out.drew
       simpa using this
     case measure => simp [intOf]; omega
  ·obtain rfl:i = n:=by omega
   have h1:U2 = []:=by
    have h1:=HI.out
    have h2:=HU.out
    rw [HUU.out] at h2
    simp at h2
    exact List.length_eq_zero_iff.1 (by omega)
   have h2:V2 = []:=by
    have h1:=HI2.out
    have h2:=HV.out
    rw [HVV.out] at h2
    simp at h2
    exact List.length_eq_zero_iff.1 (by omega)
   subst h1 h2
   have HF:Hid (SortAt (encT tc) 3 w b o (P ++ V ++ M ++ U ++ Q) wr):=by
    have:=HS.out
    rw [HUU.out,HVV.out]
    exact hid (by simpa using this)
   go_wp2
   go_end0
   exact ⟨rfl,HF.out⟩
theorem z5b {cap l:Nat} {za zb zn:Int} {cv:Value} {cur:List α} (P U M V Q:List α) (W:World) (hcur:cur = P ++ U ++ M ++ V ++ Q) (hl:l = cur.length) (hza:za = P.length) (hzb:zb = P.length + U.length + M.length) (hzn:zn = U.length) (hv:V.length = U.length)
  (h:SortAt (encT tc) 3 w b o cur W) (hcap:l ≤ cap) (hcap2:l ≤ 1000000000000) :
  Calls Tryz.prog 184 #[.slice (some ⟨b,o,none⟩) l cap,.int .i64 za,.int .i64 zb,.int .i64 zn,cv] W
   fun e w' => e = .returned (.tuple #[]) ∧ SortAt (encT tc) 3 w b o (P ++ V ++ M ++ U ++ Q) w':=by
 subst hcur hl hza hzn
 obtain rfl:zb = ((P.length + U.length + M.length:Nat):Int):=by rw [hzb]; omega
 exact zdm cap P U M V Q U.length cv W rfl hv h hcap hcap2
theorem z4n {cap l:Nat} {za zm zb:Int} {cv:Value} {cur:List α} (P X Y Q:List α) (W:World) (hcur:cur = P ++ X ++ Y ++ Q) (hl:l = cur.length) (hza:za = P.length) (hzm:zm = P.length + X.length) (hzb:zb = P.length + X.length + Y.length)
  (h:SortAt (encT tc) 3 w b o cur W) (hx:X ≠ []) (hy:Y ≠ []) (hcap:l ≤ cap) (hcap2:l ≤ 1000000000000) :
  Calls Tryz.prog 181 #[.slice (some ⟨b,o,none⟩) l cap,.int .i64 za,.int .i64 zm,.int .i64 zb,cv] W
   fun e w' => e = .returned (.tuple #[]) ∧ SortAt (encT tc) 3 w b o (P ++ Y ++ X ++ Q) w':=by
 have hx0:0 < X.length:=List.length_pos_iff.2 hx
 have hy0:0 < Y.length:=List.length_pos_iff.2 hy
 have H:=hid h
 obtain ⟨m,hm⟩:∃ m,m = P.length + X.length:=⟨_,rfl⟩
 obtain ⟨a,ha⟩:∃ a,a = P.length:=⟨_,rfl⟩
 obtain ⟨i0,hi0⟩:∃ a,a = X.length:=⟨_,rfl⟩
 obtain ⟨j0,hj0⟩:∃ a,a = Y.length:=⟨_,rfl⟩
 obtain rfl:za = a:=by omega
 obtain rfl:zm = m:=by omega
 obtain ⟨B,hB⟩:∃ B,B = m + j0:=⟨_,rfl⟩
 obtain rfl:zb = (B:Int):=by omega
 have HB:=hid hB
 have hmB:m ≤ B:=by omega
 have hBl:B ≤ l:=by rw [hl,hcur,hB,hm,hj0]; simp; omega
 have hml:m + j0 ≤ l:=by rw [hl,hcur,hm,hj0]; simp; omega
 have ham:m = a + i0:=by omega
 have HM:=hid ham
 have HLL:=hid hl
 have HCUR:=hid hcur
 have HAA:=hid ha
 have HII:=hid hi0
 have HJJ:=hid hj0
 have hai:a ≤ m:=by omega
 have hi1:1 ≤ i0:=by omega
 have hj1:1 ≤ j0:=by omega
 have w1:IntKind.i64.wrap ((m:Int) - (a:Int)) = (i0:Int):=by rw [IntKind.wrap_i64]; omega
 have W1:=hid w1
 clear h hx hy hx0 hy0 hza hzm hzb hl hcur ha hi0 hj0 hm ham w1 hB
 go_enter Tryz.func181,Tryz.ntmps181
 go_wp2
 go_loopw [10,11] (fun vi vj wr => ∃ (i j:Nat) (P' X' Y' Q':List α),vi = .int .i64 i ∧ vj = .int .i64 j ∧ 1 ≤ i ∧ 1 ≤ j ∧ i ≤ m ∧ m + j ≤ l ∧ Hid (i = X'.length) ∧ Hid (j = Y'.length) ∧ Hid (m = P'.length + X'.length) ∧ Hid (P' ++ Y' ++ X' ++ Q' = P ++ Y ++ X ++ Q) ∧ SortAt (encT tc) 3 w b o (P' ++ X' ++ Y' ++ Q') wr) (fun vi vj _ => (intOf vi).toNat + (intOf vj).toNat)
 case atStart => exact ⟨i0,j0,P,X,Y,Q,by have:=HM.out; congr 1; omega,by have:=HB.out; congr 1; omega,hi1,hj1,by have:=HM.out; omega,hml,HII.out,HJJ.out,by show _ = _; rw [HM.out,HAA.out,HII.out],rfl,by have:=H.out; rw [HCUR.out] at this; exact this⟩
 case round =>
  obtain ⟨i,j,P',X',Y',Q',rfl,rfl,hi,hj,him,hmj,HI,HJ,HMM,HE,hs⟩:=hrel
  have HS:=hid hs
  have HLC:Hid (l = (P' ++ X' ++ Y' ++ Q').length):=hid (by
   have h1:=HLL.out
   have h2:=congrArg List.length HE.out
   rw [HCUR.out] at h1
   simp at h1 h2 ⊢
   omega)
  clear hs
  rcases (show i = j ∨ j < i ∨ i < j by omega) with rfl | hlt | hlt
  ·have C:=hid (z5b (cap:=cap) (l:=l) (za:=(m:Int) - (i:Int)) (zb:=m) (zn:=i) (cv:=cv) P' X' [] Y' Q' wr (by simp) HLC.out (by have:=HMM.out; have:=HI.out; omega) (by have:=HMM.out; simp; omega) (by have:=HI.out; omega) (by rw [← HI.out,← HJ.out]) HS.out hcap hcap2)
   have q0:((i:Int) != (i:Int)) = false:=by simp
   go_wp2_with fail
   refine C.out.mono ?_
   rintro e w2 ⟨rfl,hs2⟩
   have HF:=hid hs2
   clear hs2
   go_wp2
   go_end0
   refine ⟨rfl,?_⟩
   have:=HF.out
   rw [← HE.out]
   simpa using this
  ·obtain ⟨X1,X2,hX,hX1⟩:∃ X1 X2,X' = X1 ++ X2 ∧ X1.length = j:=⟨X'.take j,X'.drop j,(List.take_append_drop j X').symm,by rw [List.length_take]; have:=HI.out; omega⟩
   subst hX
   have HX1:=hid hX1
   clear hX1
   have C:=hid (z5b (cap:=cap) (l:=l) (za:=(m:Int) - (i:Int)) (zb:=m) (zn:=j) (cv:=cv) P' X1 X2 Y' Q' wr (by simp) HLC.out (by have:=HMM.out; have:=HI.out; omega) (by have:=HMM.out; simp at this; omega) (by have:=HX1.out; omega) (by rw [HX1.out,← HJ.out]) HS.out hcap hcap2)
   have q0:((i:Int) != (j:Int)) = true:=by simp; omega
   have q1:(i:Int) > (j:Int):=by omega
   go_wp2_with fail
   refine C.out.mono ?_
   rintro e w2 ⟨rfl,hs2⟩
   have HF:=hid hs2
   clear hs2
   go_wp2
   go_roundw
   case rel =>
    refine ⟨i - j,j,P' ++ Y',X2,X1,Q',by congr 1; omega,rfl,by omega,hj,by omega,hmj,?_,?_,?_,?_,?_⟩
    ·show _ = _; have:=HI.out; have:=HX1.out; simp at *; omega
    ·exact HX1.out.symm
    ·show _ = _; have:=HMM.out; have:=HX1.out; have:=HJ.out; simp at *; omega
    ·show _ = _; rw [← HE.out]; simp
    ·have:=HF.out
     simpa using this
   case measure => simp [intOf]; omega
  ·obtain ⟨Y1,Y2,hY,hY2⟩:∃ Y1 Y2,Y' = Y1 ++ Y2 ∧ Y2.length = i:=⟨Y'.take (j - i),Y'.drop (j - i),(List.take_append_drop _ Y').symm,by rw [List.length_drop]; have:=HJ.out; omega⟩
   subst hY
   have HY2:=hid hY2
   clear hY2
   have C:=hid (z5b (cap:=cap) (l:=l) (za:=(m:Int) - (i:Int)) (zb:=(m:Int) + (j:Int) - (i:Int)) (zn:=i) (cv:=cv) P' X' Y1 Y2 Q' wr (by simp) HLC.out (by have:=HMM.out; have:=HI.out; omega) (by have:=HMM.out; have:=HJ.out; have:=HY2.out; simp at *; omega) (by have:=HI.out; omega) (by rw [HY2.out,← HI.out]) HS.out hcap hcap2)
   have q0:((i:Int) != (j:Int)) = true:=by simp; omega
   have q1:¬ (i:Int) > (j:Int):=by omega
   go_wp2_with fail
   refine C.out.mono ?_
   rintro e w2 ⟨rfl,hs2⟩
   have HF:=hid hs2
   clear hs2
   go_wp2
   go_roundw
   case rel =>
    refine ⟨i,j - i,P',Y2,Y1,X' ++ Q',rfl,by congr 1; omega,hi,by omega,him,by omega,?_,?_,?_,?_,?_⟩
    ·exact HY2.out.symm
    ·show _ = _; have:=HJ.out; have:=HY2.out; simp at *; omega
    ·show _ = _; have:=HMM.out; have:=HY2.out; have:=HI.out; omega
    ·show _ = _; rw [← HE.out]; simp
    ·have:=HF.out
     simpa using this
   case measure => simp [intOf]; omega
end
end
section
open Go.RowKit Go.Sort
section
variable {α:Type} {le:α → α → Bool}
theorem z0w.le_at {B:List α} (h:z0w le B) {i j:Nat} {x y:α} (hx:B[i]? = some x) (hy:B[j]? = some y) (hij:i < j):le x y = true:=by
 obtain ⟨h1,rfl⟩:=List.getElem?_eq_some_iff.1 hx
 obtain ⟨h2,rfl⟩:=List.getElem?_eq_some_iff.1 hy
 exact List.pairwise_iff_getElem.1 h i j h1 h2 hij
theorem z5c {B:List α} {t:Nat} {y:α} (h:y ∈ B.take t):∃ k,k < t ∧ B[k]? = some y:=by
 obtain ⟨k,hk⟩:=List.getElem?_of_mem h
 rw [List.getElem?_take] at hk
 split at hk
 ·exact ⟨k,by assumption,hk⟩
 ·cases hk
theorem z5d {B:List α} {t:Nat} {y:α} (h:y ∈ B.drop t):∃ k,t ≤ k ∧ B[k]? = some y:=by
 obtain ⟨k,hk⟩:=List.getElem?_of_mem h
 rw [List.getElem?_drop] at hk
 exact ⟨t + k,by omega,hk⟩
theorem zma (hl:TotalLe le) {B:List α} (h:z0w le B) {x:α} {t:Nat} (h1:t = 0 ∨ ∃ z,B[t - 1]? = some z ∧ le x z = false):∀ y ∈ B.take t,le x y = false:=by
 intro y hy
 obtain ⟨k,hk,hky⟩:=z5c hy
 rcases h1 with rfl | ⟨z,hz,hzx⟩
 ·omega
 ·rcases (show k = t - 1 ∨ k < t - 1 by omega) with rfl | hlt
  ·rw [hky] at hz
   cases hz
   exact hzx
  ·exact hl.not_of' hzx (h.le_at hky hz hlt)
theorem zgv (hl:TotalLe le) {B:List α} (h:z0w le B) {x:α} {t:Nat} (h1:t = B.length ∨ ∃ z,B[t]? = some z ∧ le x z = true):∀ y ∈ B.drop t,le x y = true:=by
 intro y hy
 obtain ⟨k,hk,hky⟩:=z5d hy
 rcases h1 with rfl | ⟨z,hz,hzx⟩
 ·have:=z03 hky; omega
 ·rcases (show k = t ∨ t < k by omega) with rfl | hlt
  ·rw [hky] at hz
   cases hz
   exact hzx
  ·exact hl.trans _ _ _ hzx (h.le_at hz hky hlt)
theorem zgw (hl:TotalLe le) {B:List α} (h:z0w le B) {x:α} {t:Nat} (h1:t = 0 ∨ ∃ z,B[t - 1]? = some z ∧ le z x = true):∀ y ∈ B.take t,le y x = true:=by
 intro y hy
 obtain ⟨k,hk,hky⟩:=z5c hy
 rcases h1 with rfl | ⟨z,hz,hzx⟩
 ·omega
 ·rcases (show k = t - 1 ∨ k < t - 1 by omega) with rfl | hlt
  ·rw [hky] at hz
   cases hz
   exact hzx
  ·exact hl.trans _ _ _ (h.le_at hky hz hlt) hzx
theorem zdn (hl:TotalLe le) {B:List α} (h:z0w le B) {x:α} {t:Nat} (h1:t = B.length ∨ ∃ z,B[t]? = some z ∧ le z x = false):∀ y ∈ B.drop t,le y x = false:=by
 intro y hy
 obtain ⟨k,hk,hky⟩:=z5d hy
 rcases h1 with rfl | ⟨z,hz,hzx⟩
 ·have:=z03 hky; omega
 ·rcases (show k = t ∨ t < k by omega) with rfl | hlt
  ·rw [hky] at hz
   cases hz
   exact hzx
  ·exact hl.not_of hzx (h.le_at hz hky hlt)
theorem zgx {P B T:List α} {a i:Nat} (ha:a = P.length) (hi:i < B.length):(P ++ B ++ T)[a + i]? = B[i]?:=by
 rw [List.append_assoc,List.getElem?_append_right (by omega),show a + i - P.length = i by omega,List.getElem?_append_left hi]
end
section
variable {α:Type} [Inhabited α] {tc:α → TCell} {w:World} {b o:Nat} {cf:α → α → Int} {le:α → α → Bool}
theorem zmb {cap l:Nat} {a m e:Nat} (P B T:List α) (x:α) (cur:List α) (W:World) (hc:CmpT 163 tc cf w b) (hcl:CmpLe cf le) (hcur:cur = P ++ x :: B ++ T) (hl:l = cur.length) (ha:a = P.length) (hm:m = a + 1) (he:e = a + 1 + B.length)
  (h:SortAt (encT tc) 3 w b o cur W) (hB:z0w le B) (_hcap:l ≤ cap) (hcap2:l ≤ 1000000000000) :
  Calls Tryz.prog 178 #[.slice (some ⟨b,o,none⟩) l cap,.int .i64 a,.int .i64 m,.int .i64 e,.func (.func 163) #[] #[]] W
   fun r w' => r = .returned (.tuple #[]) ∧ SortAt (encT tc) 3 w b o (P ++ z0f le [x] B ++ T) w':=by
 have H:=hid h
 have HC:=hid hc
 have HL:=hid hcl
 have HCUR:=hid hcur
 have HLL:=hid hl
 have HA:=hid ha
 have hml:e ≤ l:=by rw [hl,hcur,he,ha]; simp; omega
 have hae:m ≤ e:=by omega
 have HM:=hid hm
 have HE:=hid he
 clear h hc hcl hcur hl ha he
 have hm1:m ≤ a + 1:=by omega
 have hm2:a + 1 ≤ m:=by omega
 have q0:((m:Int) - (a:Int) == 1) = true:=by rw [beq_iff_eq]; omega
 clear hm
 have gx:cur[a]? = some x:=by rw [HCUR.out,HA.out,show P ++ x :: B ++ T = P ++ x :: (B ++ T) by simp]; exact z5u _ _ _
 have HGX:=hid gx
 clear gx
 go_enter Tryz.func178,Tryz.ntmps178
 go_wp2
 go_loopw [10,11] (fun vi vj wr => ∃ i j:Nat,vi = .int .i64 i ∧ vj = .int .i64 j ∧ m ≤ i ∧ i ≤ j ∧ j ≤ e ∧ Hid (i = m ∨ ∃ z,cur[i - 1]? = some z ∧ le x z = false) ∧ Hid (j = e ∨ ∃ z,cur[j]? = some z ∧ le x z = true) ∧ SortAt (encT tc) 3 w b o cur wr) (fun vi vj _ => (intOf vj).toNat - (intOf vi).toNat)
 case atStart => exact ⟨m,e,rfl,rfl,Nat.le_refl _,hae,Nat.le_refl _,.inl rfl,.inl rfl,H.out⟩
 case round =>
  obtain ⟨i,j,rfl,rfl,hmi,hij,hje,HI,HJ,hs⟩:=hrel
  have HS:=hid hs
  by_cases hlt:i < j
  ·obtain ⟨h,hh⟩:∃ h,h = (i + j) / 2:=⟨_,rfl⟩
   have hh1:i ≤ h:=by omega
   have hh2:h < j:=by omega
   obtain ⟨z,hz⟩:=z00 (l:=cur) (j:=h) (by rw [← HLL.out]; omega)
   have HZ:=hid hz
   have q1:((i:Int) + (j:Int)) / 2 = (h:Int):=by omega
   have L0:=fun Y:Later wr => (hs.later Y.h).get3 hz
   have L1:=fun Y:Later wr => (hs.later Y.h).get3 HGX.out
   have LC:=fun Y:Later wr => HC.out Y.w' (hs.later Y.h).grown z x
   have a0:=fun Y => (L0 Y).1.1
   have a1:=fun Y => (L0 Y).1.2.1
   have a2:=fun Y => (L0 Y).1.2.2
   have b0:=fun Y => (L1 Y).1.1
   have b1:=fun Y => (L1 Y).1.2.1
   have b2:=fun Y => (L1 Y).1.2.2
   obtain ⟨r1,r2⟩:=HL.out.range z x
   have HLE:=hid (HL.out.eq z x)
   have HH:=hid hh
   generalize cf z x = c at *
   have HLC:=hid LC
   clear L0 L1 LC hs hz hh
   have q2:(h:Int) < (l:Int):=by omega
   have q3:(a:Int) < (l:Int):=by omega
   by_cases hcc:c < 0
   ·go_wp2
    refine z04 (by kernel_rfl) (by kernel_rfl) ?_
    repeat (go_big_quiet_step (first | (go_at_call 163; exact Later.done (HLC.out _))))
    refine wpQuiet_nil ?_
    intro W2 hW2
    clear a0 a1 a2 b0 b1 b2
    have HD2:=hid (HS.out.later hW2)
    clear hW2
    go_wp2
    go_roundw
    case rel =>
     refine ⟨h + 1,j,by go_num,rfl,by omega,by omega,hje,.inr ⟨z,by rw [Nat.add_sub_cancel]; exact HZ.out,?_⟩,HJ,HD2.out⟩
     rw [HLE.out]; exact decide_eq_false (by omega)
    case measure => simp only [intOf]; omega
   ·have q4:¬ c < 0:=hcc
    go_wp2
    refine z04 (by kernel_rfl) (by kernel_rfl) ?_
    repeat (go_big_quiet_step (first | (go_at_call 163; exact Later.done (HLC.out _))))
    refine wpQuiet_nil ?_
    intro W2 hW2
    clear a0 a1 a2 b0 b1 b2
    have HD2:=hid (HS.out.later hW2)
    clear hW2
    go_wp2
    go_roundw
    case rel =>
     refine ⟨i,h,rfl,rfl,hmi,hh1,by omega,HI,.inr ⟨z,HZ.out,?_⟩,HD2.out⟩
     rw [HLE.out]; exact decide_eq_true (by omega)
    case measure => simp only [intOf]; omega
  ·obtain rfl:i = j:=by omega
   obtain ⟨t,ht⟩:∃ t,t = i - m:=⟨_,rfl⟩
   have htB:t ≤ B.length:=by have:=HE.out; omega
   have hcur':∀ k,k < B.length → cur[m + k]? = B[k]?:=fun k hk => by
    rw [HCUR.out,show P ++ x :: B ++ T = (P ++ [x]) ++ B ++ T by simp]
    exact zgx (by have:=HA.out; simp; omega) hk
   have e1:=zma HL.out.total hB (x:=x) (t:=t) (by
    rcases HI.out with h | ⟨z,h1,h2⟩
    ·exact .inl (by omega)
    ·rcases (show t = 0 ∨ 0 < t by omega) with h0 | h0
     ·exact .inl h0
     ·refine .inr ⟨z,?_,h2⟩
      rw [← hcur' _ (by omega),← h1]
      congr 1
      omega)
   have e2:=zgv HL.out.total hB (x:=x) (t:=t) (by
    rcases HJ.out with h | ⟨z,h1,h2⟩
    ·exact .inl (by have:=HE.out; omega)
    ·rcases (show t = B.length ∨ t < B.length by omega) with h0 | h0
     ·exact .inl h0
     ·refine .inr ⟨z,?_,h2⟩
      rw [← hcur' _ h0,← h1]
      congr 1
      omega)
   have hmg:=zfe e1 e2
   rw [List.take_append_drop] at hmg
   have HMG:=hid hmg
   have hb1:(B.take t).length = t:=by rw [List.length_take]; omega
   have HB:=hid (List.take_append_drop t B)
   generalize B.take t = B1 at *
   generalize B.drop t = B2 at *
   have HB1:=hid hb1
   have HT:=hid ht
   have hti:i = a + t + 1:=by omega
   have HTI:=hid hti
   have hs0:=HS.out
   rw [HCUR.out,← HB.out] at hs0
   have HS0:=hid hs0
   have hil:i ≤ l:=by omega
   clear hs hcur' e1 e2 hmg hb1 ht hti hs0 htB
   go_wp2
   go_loopw [13] (fun vk wr => ∃ (k:Nat) (C1 C2:List α),vk = .int .i64 k ∧ k < i ∧ Hid (k = a + C1.length) ∧ Hid (B1 = C1 ++ C2) ∧ SortAt (encT tc) 3 w b o (P ++ C1 ++ x :: C2 ++ B2 ++ T) wr) (fun vk _ => i - (intOf vk).toNat)
   case atStart => exact ⟨a,[],B1,rfl,by omega,rfl,rfl,by simpa using HS0.out⟩
   case round =>
    obtain ⟨k,C1,C2,rfl,hki,HK,HC12,hs⟩:=hrel
    have HS:=hid hs
    clear hs
    by_cases hlt:k + 1 < i
    ·cases C2 with
     | nil =>
      exfalso
      have h1:=HC12.out
      have h2:=HB1.out
      have h3:=HK.out
      have h4:=HTI.out
      rw [h1] at h2
      simp at h2
      omega
     | cons y C2 =>
      have hk:=HK.out
      have hk':k = (P ++ C1).length:=by rw [hk,HA.out]; simp
      have g0:(P ++ C1 ++ x :: (y :: C2) ++ B2 ++ T)[k]? = some x:=by
       rw [hk',show P ++ C1 ++ x :: (y :: C2) ++ B2 ++ T = (P ++ C1) ++ x :: (y :: C2 ++ B2 ++ T) by simp]
       exact z5u _ _ _
      have g1:(P ++ C1 ++ x :: (y :: C2) ++ B2 ++ T)[k + 1]? = some y:=by
       rw [hk',show (P ++ C1).length + 1 = (P ++ C1 ++ [x]).length by simp; omega,show P ++ C1 ++ x :: (y :: C2) ++ B2 ++ T = (P ++ C1 ++ [x]) ++ y :: (C2 ++ B2 ++ T) by simp]
       exact z5u _ _ _
      obtain ⟨⟨c0,c1,c2⟩,f0,f1,f2⟩:=HS.out.get3 g0
      obtain ⟨⟨d0,d1,d2⟩,k0,k1,k2⟩:=HS.out.get3 g1
      have HD:=hid (HS.out.swap3 g0 g1 (d':=P ++ C1 ++ y :: x :: C2 ++ B2 ++ T) (by
       have e:=zql (P ++ C1) [] (C2 ++ B2 ++ T) x y
       rw [hk']
       simp only [List.append_assoc,List.cons_append,List.nil_append,List.length_nil,Nat.add_zero] at e ⊢
       exact e))
      clear g0 g1 hk hk'
      have q1:(k:Int) + 1 < (l:Int):=by omega
      have q2:(k:Int) < (l:Int):=by omega
      have q3:(0:Int) ≤ (k:Int) + 1:=by omega
      have q5:((k:Int) + 1).toNat = k + 1:=by omega
      have q6:(k:Int) < (i:Int) - 1:=by omega
      go_wp2
      go_big_region
      all_goals go_wp2
      go_roundw
      case rel =>
       refine ⟨k + 1,C1 ++ [y],C2,by go_num,hlt,?_,?_,?_⟩
       ·show _ = _; have:=HK.out; simp; omega
       ·show _ = _; rw [HC12.out]; simp
       ·have:=HD.out.drew
        simpa using this
      case measure => simp only [intOf]; omega
    ·have hC2:C2 = []:=by
      have h1:=HC12.out
      have h2:=HB1.out
      have h3:=HK.out
      have h4:=HTI.out
      rw [h1] at h2
      simp at h2
      exact List.length_eq_zero_iff.1 (by omega)
     subst hC2
     have HF:Hid (SortAt (encT tc) 3 w b o (P ++ z0f le [x] B ++ T) wr):=by
      have:=HS.out
      rw [HMG.out,HC12.out]
      exact hid (by simpa using this)
     have q6:¬ (k:Int) < (i:Int) - 1:=by omega
     go_wp2
     (try simp only [Exit.inBlock,Exit.then]); refine bodyPost_ret (results_none rfl _ _ _) rfl ?_
     exact ⟨rfl,by first | (with_reducible exact HF.out) | (rw [← List.append_assoc]; with_reducible exact HF.out)⟩
theorem ziw {cap l:Nat} {a m e:Nat} (P A T:List α) (x:α) (cur:List α) (W:World) (hc:CmpT 163 tc cf w b) (hcl:CmpLe cf le) (hcur:cur = P ++ A ++ x :: T) (hl:l = cur.length) (ha:a = P.length) (hm:m = a + A.length) (he:e = m + 1) (hA2:2 ≤ A.length)
  (h:SortAt (encT tc) 3 w b o cur W) (hA:z0w le A) (_hcap:l ≤ cap) (hcap2:l ≤ 1000000000000) :
  Calls Tryz.prog 178 #[.slice (some ⟨b,o,none⟩) l cap,.int .i64 a,.int .i64 m,.int .i64 e,.func (.func 163) #[] #[]] W
   fun r w' => r = .returned (.tuple #[]) ∧ SortAt (encT tc) 3 w b o (P ++ z0f le A [x] ++ T) w':=by
 have hnot:∀ (x:Bool) (w:World),(Op.unary .not (.bool x)).run Tryz.prog w = .ok (.bool (!x)) w:=fun _ _ => rfl
 have H:=hid h
 have HC:=hid hc
 have HL:=hid hcl
 have HCUR:=hid hcur
 have HLL:=hid hl
 have HA:=hid ha
 have hml:e ≤ l:=by rw [hl,hcur,he,hm,ha]; simp; omega
 have hae:a + 2 ≤ m:=by omega
 have HM:=hid hm
 have hem:m < e:=by omega
 have q0:((m:Int) - (a:Int) == 1) = false:=by rw [beq_eq_false_iff_ne]; omega
 have q00:((e:Int) - (m:Int) == 1) = true:=by rw [beq_iff_eq]; omega
 have hmm:(P ++ A).length = m:=by rw [hm,ha]; simp
 clear h hc hcl hcur hl ha he hm hA2
 have gx:cur[m]? = some x:=by rw [HCUR.out,← hmm]; exact z5u _ _ _
 have HGX:=hid gx
 have HMM:=hid hmm
 clear gx hmm
 go_enter Tryz.func178,Tryz.ntmps178
 go_wp2
 go_loopw [14,15] (fun vi vj wr => ∃ i j:Nat,vi = .int .i64 i ∧ vj = .int .i64 j ∧ a ≤ i ∧ i ≤ j ∧ j ≤ m ∧ Hid (i = a ∨ ∃ z,cur[i - 1]? = some z ∧ le z x = true) ∧ Hid (j = m ∨ ∃ z,cur[j]? = some z ∧ le z x = false) ∧ SortAt (encT tc) 3 w b o cur wr) (fun vi vj _ => (intOf vj).toNat - (intOf vi).toNat)
 case atStart => exact ⟨a,m,rfl,rfl,Nat.le_refl _,by omega,Nat.le_refl _,.inl rfl,.inl rfl,H.out⟩
 case round =>
  obtain ⟨i,j,rfl,rfl,hmi,hij,hje,HI,HJ,hs⟩:=hrel
  have HS:=hid hs
  by_cases hlt:i < j
  ·obtain ⟨h,hh⟩:∃ h,h = (i + j) / 2:=⟨_,rfl⟩
   have hh1:i ≤ h:=by omega
   have hh2:h < j:=by omega
   obtain ⟨z,hz⟩:=z00 (l:=cur) (j:=h) (by rw [← HLL.out]; omega)
   have HZ:=hid hz
   have q1:((i:Int) + (j:Int)) / 2 = (h:Int):=by omega
   have L0:=fun Y:Later wr => (hs.later Y.h).get3 hz
   have L1:=fun Y:Later wr => (hs.later Y.h).get3 HGX.out
   have LC:=fun Y:Later wr => HC.out Y.w' (hs.later Y.h).grown x z
   have a0:=fun Y => (L0 Y).1.1
   have a1:=fun Y => (L0 Y).1.2.1
   have a2:=fun Y => (L0 Y).1.2.2
   have b0:=fun Y => (L1 Y).1.1
   have b1:=fun Y => (L1 Y).1.2.1
   have b2:=fun Y => (L1 Y).1.2.2
   obtain ⟨r1,r2⟩:=HL.out.range x z
   have HLE:=hid (HL.out.eq x z)
   have HH:=hid hh
   generalize cf x z = c at *
   have HLC:=hid LC
   clear L0 L1 LC hs hz hh
   have q2:(h:Int) < (l:Int):=by omega
   have q3:(m:Int) < (l:Int):=by omega
   by_cases hcc:c < 0
   ·go_wp2
    refine z04 (by kernel_rfl) (by kernel_rfl) ?_
    repeat (go_big_quiet_step (first | (go_at_call 163; exact Later.done (HLC.out _))))
    refine wpQuiet_nil ?_
    intro W2 hW2
    clear a0 a1 a2 b0 b1 b2
    have HD2:=hid (HS.out.later hW2)
    clear hW2
    go_wp2
    go_roundw
    case rel =>
     refine ⟨i,h,rfl,rfl,hmi,hh1,by omega,HI,.inr ⟨z,HZ.out,?_⟩,HD2.out⟩
     rw [HLE.out]; exact decide_eq_false (by omega)
    case measure => simp only [intOf]; omega
   ·have q4:decide (c < 0) = false:=decide_eq_false hcc
    have q5:c + 1 > 0:=by omega
    have HCC:=hid hcc
    clear hcc
    go_wp2
    refine z04 (by kernel_rfl) (by kernel_rfl) ?_
    repeat (go_big_quiet_step (first | (go_at_call 163; exact Later.done (HLC.out _))))
    refine wpQuiet_nil ?_
    intro W2 hW2
    clear a0 a1 a2 b0 b1 b2
    have HD2:=hid (HS.out.later hW2)
    clear hW2
    go_wp2
    go_roundw
    case rel =>
     refine ⟨h + 1,j,by go_num,rfl,by omega,by omega,hje,.inr ⟨z,by rw [Nat.add_sub_cancel]; exact HZ.out,?_⟩,HJ,HD2.out⟩
     rw [HLE.out]; exact decide_eq_true (by have:=HCC.out; omega)
    case measure => simp only [intOf]; omega
  ·obtain rfl:i = j:=by omega
   obtain ⟨t,ht⟩:∃ t,t = i - a:=⟨_,rfl⟩
   have htB:t ≤ A.length:=by have:=HM.out; omega
   have hcur':∀ k,k < A.length → cur[a + k]? = A[k]?:=fun k hk => by
    rw [HCUR.out]
    exact zgx HA.out hk
   have e1:=zgw HL.out.total hA (x:=x) (t:=t) (by
    rcases HI.out with h | ⟨z,h1,h2⟩
    ·exact .inl (by omega)
    ·rcases (show t = 0 ∨ 0 < t by omega) with h0 | h0
     ·exact .inl h0
     ·refine .inr ⟨z,?_,h2⟩
      rw [← hcur' _ (by omega),← h1]
      congr 1
      omega)
   have e2:=zdn HL.out.total hA (x:=x) (t:=t) (by
    rcases HJ.out with h | ⟨z,h1,h2⟩
    ·exact .inl (by have:=HM.out; omega)
    ·rcases (show t = A.length ∨ t < A.length by omega) with h0 | h0
     ·exact .inl h0
     ·refine .inr ⟨z,?_,h2⟩
      rw [← hcur' _ h0,← h1]
      congr 1
      omega)
   have hmg:=z88 e1 e2
   rw [List.take_append_drop] at hmg
   have HMG:=hid hmg
   have hb1:(A.take t).length = t:=by rw [List.length_take]; omega
   have HB:=hid (List.take_append_drop t A)
   generalize A.take t = A1 at *
   generalize A.drop t = A2 at *
   have HB1:=hid hb1
   have HT:=hid ht
   have hti:i = a + t:=by omega
   have HTI:=hid hti
   have hs0:=HS.out
   rw [HCUR.out,← HB.out] at hs0
   have HS0:=hid hs0
   have hil:i ≤ l:=by omega
   clear hs hcur' e1 e2 hmg hb1 ht hti hs0 htB
   go_wp2
   go_loopw [17] (fun vk wr => ∃ (k:Nat) (C1 C2:List α),vk = .int .i64 k ∧ i ≤ k ∧ k ≤ m ∧ Hid (k = i + C1.length) ∧ Hid (A2 = C1 ++ C2) ∧ SortAt (encT tc) 3 w b o (P ++ A1 ++ C1 ++ x :: C2 ++ T) wr) (fun vk _ => (intOf vk).toNat - i)
   case atStart => exact ⟨m,A2,[],rfl,by omega,Nat.le_refl _,by have h1:=HM.out; have h2:=HTI.out; have h3:=HB1.out; have h4:=congrArg List.length HB.out; simp at h4; show _ = _; omega,by show _ = _; simp,by simpa using HS0.out⟩
   case round =>
    obtain ⟨k,C1,C2,rfl,hki,hkm,HK,HC12,hs⟩:=hrel
    have HS:=hid hs
    clear hs
    by_cases hlt:i < k
    ·rcases (show C1 = [] ∨ ∃ L z,C1 = L ++ [z] by simpa using List.eq_nil_or_concat C1) with rfl | ⟨C1,y,rfl⟩
     ·exfalso
      have h3:=HK.out
      simp at h3
      omega
     ·have hk:=HK.out
      obtain ⟨kp,rfl⟩:∃ kp,k = kp + 1:=⟨k - 1,by omega⟩
      have hk':kp = (P ++ A1 ++ C1).length:=by have h1:=HTI.out; have h2:=HA.out; have h3:=HB1.out; simp at hk ⊢; omega
      have g1:(P ++ A1 ++ (C1 ++ [y]) ++ x :: C2 ++ T)[kp]? = some y:=by
       rw [hk',show P ++ A1 ++ (C1 ++ [y]) ++ x :: C2 ++ T = (P ++ A1 ++ C1) ++ y :: (x :: C2 ++ T) by simp]
       exact z5u _ _ _
      have g0:(P ++ A1 ++ (C1 ++ [y]) ++ x :: C2 ++ T)[kp + 1]? = some x:=by
       rw [hk',show (P ++ A1 ++ C1).length + 1 = (P ++ A1 ++ C1 ++ [y]).length by simp; omega,show P ++ A1 ++ (C1 ++ [y]) ++ x :: C2 ++ T = (P ++ A1 ++ C1 ++ [y]) ++ x :: (C2 ++ T) by simp]
       exact z5u _ _ _
      obtain ⟨⟨c0,c1,c2⟩,f0,f1,f2⟩:=HS.out.get3 g0
      obtain ⟨⟨d0,d1,d2⟩,k0,k1,k2⟩:=HS.out.get3 g1
      have HD:=hid (HS.out.swap3 g0 g1 (d':=P ++ A1 ++ C1 ++ x :: y :: C2 ++ T) (by
       have e:=zgu (P ++ A1 ++ C1) [] (C2 ++ T) y x
       rw [hk']
       simp only [List.append_assoc,List.cons_append,List.nil_append,List.length_nil,Nat.add_zero] at e ⊢
       exact e))
      clear g0 g1 hk hk'
      have q1:(kp:Int) + 1 < (l:Int):=by omega
      have q2:(kp:Int) < (l:Int):=by omega
      have q3:(0:Int) ≤ (kp:Int) + 1:=by omega
      have q5:((kp:Int) + 1).toNat = kp + 1:=by omega
      have q7:(i:Int) < (kp:Int) + 1:=by omega
      go_wp2
      go_big_region
      all_goals go_wp2
      go_roundw
      case rel =>
       refine ⟨kp,C1,y :: C2,rfl,by omega,by omega,?_,?_,?_⟩
       ·show _ = _; have:=HK.out; simp at this; omega
       ·show _ = _; rw [HC12.out]; simp
       ·have:=HD.out.drew
        simpa using this
      case measure => simp only [intOf]; omega
    ·have hC1:C1 = []:=by
      have h3:=HK.out
      exact List.length_eq_zero_iff.1 (by omega)
     subst hC1
     have HF:Hid (SortAt (encT tc) 3 w b o (P ++ z0f le A [x] ++ T) wr):=by
      have:=HS.out
      rw [HMG.out,HC12.out]
      exact hid (by simpa using this)
     go_wp2
     (try simp only [Exit.inBlock,Exit.then]); refine bodyPost_ret (results_none rfl _ _ _) rfl ?_
     exact ⟨rfl,by first | (with_reducible exact HF.out) | (rw [← List.append_assoc]; with_reducible exact HF.out)⟩
end
end
section
open Go.RowKit Go.Sort
def z4v (a m e d lo hi:Nat):Prop:=(d < m ∧ lo + e = d + m ∧ hi = d) ∨ (m ≤ d ∧ lo = a ∧ hi = m)
section
variable {α:Type} {le:α → α → Bool}
theorem zdo (hl:TotalLe le) {P A B T cur:List α} (hA:z0w le A) (hB:z0w le B) (hcur:cur = P ++ A ++ B ++ T) {a m e d s f lo hi:Nat} (ha:a = P.length) (hm:m = a + A.length) (he:e = m + B.length) (hd:d = (a + e) / 2)
  (hg:z4v a m e d lo hi) (hls:lo ≤ s) (hsh:s ≤ hi) (hf:f + s = d + m)
  (h1:s = lo ∨ ∃ x z,cur[s - 1]? = some x ∧ cur[f]? = some z ∧ le x z = true) (h2:s = hi ∨ ∃ x z,cur[s]? = some x ∧ cur[f - 1]? = some z ∧ le x z = false) :
  ∃ A1 A2 B1 B2,A = A1 ++ A2 ∧ B = B1 ++ B2 ∧ s = a + A1.length ∧ f = m + B1.length ∧ z0f le A B = z0f le A1 B1 ++ z0f le A2 B2:=by
 have hsb:a ≤ s ∧ s ≤ m ∧ m ≤ f ∧ f ≤ e:=by unfold z4v at hg; omega
 have atA:∀ k,k < A.length → cur[a + k]? = A[k]?:=fun k hk => by
  rw [hcur,List.append_assoc]
  exact zgx ha hk
 have atB:∀ k,k < B.length → cur[m + k]? = B[k]?:=fun k hk => by
  rw [hcur]
  exact zgx (by simp; omega) hk
 have hA1:(A.take (s - a)).length = s - a:=by rw [List.length_take]; omega
 have hB1:(B.take (f - m)).length = f - m:=by rw [List.length_take]; omega
 refine ⟨A.take (s - a),A.drop (s - a),B.take (f - m),B.drop (f - m),(List.take_append_drop _ _).symm,(List.take_append_drop _ _).symm,by omega,by omega,?_⟩
 conv => lhs; rw [← List.take_append_drop (s - a) A,← List.take_append_drop (f - m) B]
 refine z3v _ _ _ _ ?_ ?_
 ·intro x hx y hy
  obtain ⟨k,hk,hkx⟩:=z5c hx
  obtain ⟨k',hk',hky⟩:=z5d hy
  have hkB:=z03 hky
  rcases h1 with h1 | ⟨x0,z0,g1,g2,g3⟩
  ·unfold z4v at hg; omega
  ·have e1:A[s - a - 1]? = some x0:=by rw [← atA _ (by omega),← g1]; congr 1; omega
   have e2:B[f - m]? = some z0:=by rw [← atB _ (by omega),← g2]; congr 1; omega
   have:=zgw hl hA (x:=z0) (t:=s - a) (.inr ⟨x0,e1,g3⟩) x hx
   exact zgv hl hB (x:=x) (t:=f - m) (.inr ⟨z0,e2,this⟩) y hy
 ·intro y hy x hx
  obtain ⟨k,hk,hky⟩:=z5c hy
  obtain ⟨k',hk',hkx⟩:=z5d hx
  have hkA:=z03 hkx
  rcases h2 with h2 | ⟨x0,z0,g1,g2,g3⟩
  ·unfold z4v at hg; omega
  ·have e1:A[s - a]? = some x0:=by rw [← atA _ (by omega),← g1]; congr 1; omega
   have e2:B[f - m - 1]? = some z0:=by rw [← atB _ (by omega),← g2]; congr 1; omega
   have:=zma hl hB (x:=x0) (t:=f - m) (.inr ⟨z0,e2,g3⟩) y hy
   exact zdn hl hA (x:=y) (t:=s - a) (.inr ⟨x0,e1,this⟩) x hx
end
section
variable {α:Type} [Inhabited α] {tc:α → TCell} {w:World} {b o:Nat} {cf:α → α → Int} {le:α → α → Bool}
theorem zix {cap l:Nat} {a m e:Nat} (P A B T:List α) (cur:List α) (W:World) (hc:CmpT 163 tc cf w b) (hcl:CmpLe cf le) (hcur:cur = P ++ A ++ B ++ T) (hl:l = cur.length) (ha:a = P.length) (hm:m = a + A.length) (he:e = m + B.length) (hA2:2 ≤ A.length) (hB2:2 ≤ B.length)
  (ih:∀ (P A' B' T cur:List α) (W:World) (l a m e:Nat),A'.length + B'.length < A.length + B.length → 0 < A'.length → 0 < B'.length → z0w le A' → z0w le B' → cur = P ++ A' ++ B' ++ T → l = cur.length → a = P.length → m = a + A'.length → e = m + B'.length → SortAt (encT tc) 3 w b o cur W → l ≤ cap → l ≤ 1000000000000 →
   Calls Tryz.prog 178 #[.slice (some ⟨b,o,none⟩) l cap,.int .i64 a,.int .i64 m,.int .i64 e,.func (.func 163) #[] #[]] W
    fun r w' => r = .returned (.tuple #[]) ∧ SortAt (encT tc) 3 w b o (P ++ z0f le A' B' ++ T) w')
  (h:SortAt (encT tc) 3 w b o cur W) (hA:z0w le A) (hB:z0w le B) (hcap:l ≤ cap) (hcap2:l ≤ 1000000000000) :
  Calls Tryz.prog 178 #[.slice (some ⟨b,o,none⟩) l cap,.int .i64 a,.int .i64 m,.int .i64 e,.func (.func 163) #[] #[]] W
   fun r w' => r = .returned (.tuple #[]) ∧ SortAt (encT tc) 3 w b o (P ++ z0f le A B ++ T) w':=by
 have hnot:∀ (x:Bool) (w:World),(Op.unary .not (.bool x)).run Tryz.prog w = .ok (.bool (!x)) w:=fun _ _ => rfl
 have H:=hid h
 have HC:=hid hc
 have HL:=hid hcl
 have HIH:=hid ih
 have HCUR:=hid hcur
 have HLL:=hid hl
 have HA:=hid ha
 have hml:e ≤ l:=by rw [hl,hcur,he,hm,ha]; simp; omega
 have hae:a + 2 ≤ m:=by omega
 have HM:=hid hm
 have HE:=hid he
 have hem:m + 2 ≤ e:=by omega
 have q0:((m:Int) - (a:Int) == 1) = false:=by rw [beq_eq_false_iff_ne]; omega
 have q00:((e:Int) - (m:Int) == 1) = false:=by rw [beq_eq_false_iff_ne]; omega
 obtain ⟨d,hd⟩:∃ d,d = (a + e) / 2:=⟨_,rfl⟩
 have q1:((a:Int) + (e:Int)) / 2 = (d:Int):=by omega
 have HD:=hid hd
 have had:a < d:=by omega
 have hde:d < e:=by omega
 have hd2:2 * d ≤ a + e ∧ a + e ≤ 2 * d + 1:=by omega
 obtain ⟨hd21,hd22⟩:=hd2
 clear h hc hcl hcur hl ha he hm hA2 hB2 ih hd
 have hcase:(d < m ∧ ∃ lo:Nat,lo + e = d + m) ∨ m ≤ d:=by
  rcases (show d < m ∨ m ≤ d by omega) with h | h
  ·exact .inl ⟨h,d + m - e,by omega⟩
  ·exact .inr h
 rcases hcase with ⟨hdm,lo0,hlo⟩ | hdm
 ·have q2:(d:Int) + (m:Int) - (e:Int) = (lo0:Int):=by omega
  have HG:Hid (z4v a m e d lo0 d):=.inl ⟨hdm,hlo,rfl⟩
  have q3:(m:Int) > (d:Int):=by omega
  have hlh:lo0 ≤ d:=by omega
  go_enter Tryz.func178,Tryz.ntmps178
  go_wp2
  go_loopw [20,21] (fun vi vj wr => ∃ i j lo hi:Nat,vi = .int .i64 i ∧ vj = .int .i64 j ∧ Hid (z4v a m e d lo hi) ∧ lo ≤ i ∧ i ≤ j ∧ j ≤ hi ∧ Hid (i = lo ∨ ∃ x z,cur[i - 1]? = some x ∧ cur[d + m - i]? = some z ∧ le x z = true) ∧ Hid (j = hi ∨ ∃ x z,cur[j]? = some x ∧ cur[d + m - j - 1]? = some z ∧ le x z = false) ∧ SortAt (encT tc) 3 w b o cur wr) (fun vi vj _ => (intOf vj).toNat - (intOf vi).toNat)
  case atStart => exact ⟨lo0,d,lo0,d,rfl,rfl,HG,Nat.le_refl _,hlh,Nat.le_refl _,.inl rfl,.inl rfl,H.out⟩
  case round =>
   clear HG q2 q3 hlh hlo hdm
   obtain ⟨i,j,lo,hi,rfl,rfl,HG,hli,hij,hjh,HI,HJ,hs⟩:=hrel
   have HS:=hid hs
   have hb:a ≤ lo ∧ hi ≤ m ∧ hi ≤ d ∧ d + m ≤ lo + e:=by have:=HG.out; unfold z4v at this; omega
   obtain ⟨hb1,hb2,hb3,hb4⟩:=hb
   by_cases hlt:i < j
   ·obtain ⟨h,hh⟩:∃ h,h = (i + j) / 2:=⟨_,rfl⟩
    have hh1:i ≤ h:=by omega
    have hh2:h < j:=by omega
    obtain ⟨g,hg⟩:∃ g,g = d + m - h - 1:=⟨_,rfl⟩
    have hge:g < e:=by omega
    obtain ⟨x,hx⟩:=z00 (l:=cur) (j:=h) (by rw [← HLL.out]; omega)
    obtain ⟨z,hz⟩:=z00 (l:=cur) (j:=g) (by rw [← HLL.out]; omega)
    have HX:=hid hx
    have HZ:=hid hz
    have p1:((i:Int) + (j:Int)) / 2 = (h:Int):=by omega
    have p2:(d:Int) + (m:Int) - 1 - (h:Int) = (g:Int):=by omega
    have p3:(g:Int) < (l:Int):=by omega
    have p4:(h:Int) < (l:Int):=by omega
    have L0:=fun Y:Later wr => (hs.later Y.h).get3 hz
    have L1:=fun Y:Later wr => (hs.later Y.h).get3 hx
    have LC:=fun Y:Later wr => HC.out Y.w' (hs.later Y.h).grown z x
    have a0:=fun Y => (L0 Y).1.1
    have a1:=fun Y => (L0 Y).1.2.1
    have a2:=fun Y => (L0 Y).1.2.2
    have b0:=fun Y => (L1 Y).1.1
    have b1:=fun Y => (L1 Y).1.2.1
    have b2:=fun Y => (L1 Y).1.2.2
    obtain ⟨r1,r2⟩:=HL.out.range z x
    have HLE:=hid (HL.out.eq z x)
    have HH:=hid hh
    have HGG:=hid hg
    generalize cf z x = c at *
    have HLC:=hid LC
    clear L0 L1 LC hs hz hx hh hg
    by_cases hcc:c < 0
    ·go_wp2
     refine z04 (by kernel_rfl) (by kernel_rfl) ?_
     repeat (go_big_quiet_step (first | (go_at_call 163; exact Later.done (HLC.out _))))
     refine wpQuiet_nil ?_
     intro W2 hW2
     clear a0 a1 a2 b0 b1 b2
     have HD2:=hid (HS.out.later hW2)
     clear hW2
     go_wp2
     go_roundw
     case rel =>
      refine ⟨i,h,lo,hi,rfl,rfl,HG,hli,hh1,by omega,HI,.inr ⟨x,z,HX.out,by rw [← HGG.out]; exact HZ.out,?_⟩,HD2.out⟩
      rw [HLE.out]; exact decide_eq_false (by omega)
     case measure => simp only [intOf]; omega
    ·have q4:decide (c < 0) = false:=decide_eq_false hcc
     have q5:c + 1 > 0:=by omega
     have HCC:=hid hcc
     clear hcc
     go_wp2
     refine z04 (by kernel_rfl) (by kernel_rfl) ?_
     repeat (go_big_quiet_step (first | (go_at_call 163; exact Later.done (HLC.out _))))
     refine wpQuiet_nil ?_
     intro W2 hW2
     clear a0 a1 a2 b0 b1 b2
     have HD2:=hid (HS.out.later hW2)
     clear hW2
     go_wp2
     go_roundw
     case rel =>
      refine ⟨h + 1,j,lo,hi,by go_num,rfl,HG,by omega,by omega,hjh,.inr ⟨x,z,by rw [Nat.add_sub_cancel]; exact HX.out,by rw [show d + m - (h + 1) = g by have:=HGG.out; omega]; exact HZ.out,?_⟩,HJ,HD2.out⟩
      rw [HLE.out]; exact decide_eq_true (by have:=HCC.out; omega)
     case measure => simp only [intOf]; omega
   ·obtain rfl:i = j:=by omega
    obtain ⟨f,hf⟩:∃ f,f + i = d + m:=⟨d + m - i,by omega⟩
    obtain ⟨A1,A2,B1,B2,hA12,hB12,hsA,hfB,hmg⟩:=zdo (f:=f) HL.out.total hA hB HCUR.out HA.out HM.out HE.out HD.out HG.out hli hjh hf (by
     have:=HI.out
     rwa [show d + m - i = f by omega] at this) (by
     have:=HJ.out
     rwa [show d + m - i - 1 = f - 1 by omega] at this)
    have p1:(d:Int) + (m:Int) - (i:Int) = (f:Int):=by omega
    have lA:=HM.out
    have lB:=HE.out
    rw [hA12] at lA
    rw [hB12] at lB
    simp only [List.length_append] at lA lB
    have lP:=HA.out
    have HMG:=hid hmg
    have HK0:Hid (SortAt (encT tc) 3 w b o (P ++ A1 ++ A2 ++ B1 ++ B2 ++ T) wr):=hid (by
     have:=HS.out
     rw [HCUR.out,hA12,hB12] at this
     simpa using this)
    have HLN:Hid (l = P.length + A1.length + A2.length + B1.length + B2.length + T.length):=hid (by rw [HLL.out,HCUR.out,hA12,hB12]; simp; omega)
    have HSZ:Hid (A.length = A1.length + A2.length ∧ B.length = B1.length + B2.length):=hid (by rw [hA12,hB12]; simp)
    have HSA:Hid (z0w le A1 ∧ z0w le A2 ∧ z0w le B1 ∧ z0w le B2):=hid (by
     rw [hA12] at hA
     rw [hB12] at hB
     have h1:=List.pairwise_append.1 hA
     have h2:=List.pairwise_append.1 hB
     exact ⟨h1.1,h1.2.1,h2.1,h2.2.1⟩)
    have LP:=hid lP
    have LA:=hid (And.intro lA lB)
    have LS:=hid (And.intro hsA (And.intro hfB hf))
    have hmle:m ≤ l:=by omega
    have hfle:f ≤ l:=by omega
    clear hs hA12 hB12 hmg hli hij hjh hb1 hb2 hb3 hb4 hlt lA lB lP hsA hfB hf
    rcases (show (0 < A1.length ∧ 0 < A2.length ∧ 0 < B1.length ∧ 0 < B2.length) ∨ (0 < A1.length ∧ 0 < A2.length ∧ 0 < B1.length ∧ B2.length = 0) ∨ (0 < A1.length ∧ A2.length = 0 ∧ 0 < B1.length ∧ 0 < B2.length) ∨ (0 < A1.length ∧ 0 < A2.length ∧ B1.length = 0 ∧ 0 < B2.length) ∨ (0 < A1.length ∧ 0 < A2.length ∧ B1.length = 0 ∧ B2.length = 0) ∨ (0 < A1.length ∧ A2.length = 0 ∧ B1.length = 0 ∧ 0 < B2.length) ∨ (A1.length = 0 ∧ 0 < A2.length ∧ 0 < B1.length ∧ 0 < B2.length) ∨ (A1.length = 0 ∧ 0 < A2.length ∧ 0 < B1.length ∧ B2.length = 0) ∨ (A1.length = 0 ∧ A2.length = 0 ∧ 0 < B1.length ∧ 0 < B2.length) by have:=LA.out; have:=LS.out; omega) with ⟨n1,n2,n3,n4⟩ | ⟨n1,n2,n3,n4⟩ | ⟨n1,n2,n3,n4⟩ | ⟨n1,n2,n3,n4⟩ | ⟨n1,n2,n3,n4⟩ | ⟨n1,n2,n3,n4⟩ | ⟨n1,n2,n3,n4⟩ | ⟨n1,n2,n3,n4⟩ | ⟨n1,n2,n3,n4⟩
    ·have f1:(i:Int) < (m:Int):=by have:=LA.out; have:=LS.out; omega
     have f2:(m:Int) < (f:Int):=by have:=LA.out; have:=LS.out; omega
     have f3:(a:Int) < (i:Int):=by have:=LA.out; have:=LS.out; omega
     have f4:(i:Int) < (d:Int):=by have:=LA.out; have:=LS.out; omega
     have f5:(d:Int) < (f:Int):=by have:=LA.out; have:=LS.out; omega
     have f6:(f:Int) < (e:Int):=by have:=LA.out; have:=LS.out; omega
     have HN1:=hid (And.intro n2 n3)
     have HNN:=hid (And.intro n1 (And.intro n2 (And.intro n3 n4)))
     clear n1 n2 n3 n4
     have C1:=hid (z4n (tc:=tc) (cap:=cap) (l:=l) (za:=(i:Int)) (zm:=(m:Int)) (zb:=(f:Int)) (cv:=.func (.func 163) #[] #[]) (P ++ A1) A2 B1 (B2 ++ T) wr (by simp) (by rw [HLN.out]; simp; omega) (by have:=LS.out; have:=LP.out; simp; omega) (by have:=LS.out; have:=LP.out; have:=LA.out; simp; omega) (by have:=LS.out; have:=LP.out; have:=LA.out; simp; omega) HK0.out (by intro hn; have:=HNN.out; rw [hn] at this; simp at this) (by intro hn; have:=HNN.out; rw [hn] at this; simp at this) hcap hcap2)
     go_wp2_with fail
     with_reducible refine C1.out.mono ?_
     rintro r w1 ⟨rfl,hk1⟩
     have HK1:Hid (SortAt (encT tc) 3 w b o (P ++ A1 ++ B1 ++ A2 ++ B2 ++ T) w1):=hid (by simpa using hk1)
     clear hk1
     have C2:=hid (HIH.out P A1 B1 (A2 ++ B2 ++ T) _ w1 l a i d (by have:=HNN.out; have:=HSZ.out; omega) HNN.out.1 HNN.out.2.2.1 HSA.out.1 HSA.out.2.2.1 (by simp) (by rw [HLN.out]; simp; omega) LP.out LS.out.1 (by have:=LS.out; have:=LA.out; omega) HK1.out hcap hcap2)
     go_wp2_with fail
     with_reducible refine C2.out.mono ?_
     rintro r w2 ⟨rfl,hk2⟩
     have HK2:Hid (SortAt (encT tc) 3 w b o (P ++ z0f le A1 B1 ++ A2 ++ B2 ++ T) w2):=hid (by simpa using hk2)
     clear hk2
     have C3:=hid (HIH.out (P ++ z0f le A1 B1) A2 B2 T _ w2 l d f e (by have:=HNN.out; have:=HSZ.out; omega) HNN.out.2.1 HNN.out.2.2.2 HSA.out.2.1 HSA.out.2.2.2 (by simp) (by rw [HLN.out]; simp; omega) (by have:=LS.out; have:=LA.out; have:=LP.out; simp; omega) (by have:=LS.out; have:=LA.out; omega) (by have:=LS.out; have:=LA.out; omega) HK2.out hcap hcap2)
     go_wp2_with fail
     with_reducible refine C3.out.mono ?_
     rintro r w3 ⟨rfl,hk3⟩
     have HK3:Hid (SortAt (encT tc) 3 w b o (P ++ z0f le A B ++ T) w3):=hid (by rw [HMG.out]; simpa using hk3)
     clear hk3
     go_wp2
     all_goals
      go_end0
      exact ⟨rfl,by first | (with_reducible exact HK3.out) | (rw [← List.append_assoc]; with_reducible exact HK3.out)⟩
    ·have f1:(i:Int) < (m:Int):=by have:=LA.out; have:=LS.out; omega
     have f2:(m:Int) < (f:Int):=by have:=LA.out; have:=LS.out; omega
     have f3:(a:Int) < (i:Int):=by have:=LA.out; have:=LS.out; omega
     have f4:(i:Int) < (d:Int):=by have:=LA.out; have:=LS.out; omega
     have f5:(d:Int) < (f:Int):=by have:=LA.out; have:=LS.out; omega
     have f6:(e:Int) ≤ (f:Int):=by have:=LA.out; have:=LS.out; omega
     have hzB2:B2 = []:=List.length_eq_zero_iff.1 (by omega)
     have HZ:=hid (And.intro (rfl:0 = 0) hzB2)
     clear hzB2
     have HN1:=hid (And.intro n2 n3)
     have HNN:=hid (And.intro n1 (And.intro n2 (And.intro n3 n4)))
     clear n1 n2 n3 n4
     have C1:=hid (z4n (tc:=tc) (cap:=cap) (l:=l) (za:=(i:Int)) (zm:=(m:Int)) (zb:=(f:Int)) (cv:=.func (.func 163) #[] #[]) (P ++ A1) A2 B1 (B2 ++ T) wr (by simp) (by rw [HLN.out]; simp; omega) (by have:=LS.out; have:=LP.out; simp; omega) (by have:=LS.out; have:=LP.out; have:=LA.out; simp; omega) (by have:=LS.out; have:=LP.out; have:=LA.out; simp; omega) HK0.out (by intro hn; have:=HNN.out; rw [hn] at this; simp at this) (by intro hn; have:=HNN.out; rw [hn] at this; simp at this) hcap hcap2)
     go_wp2_with fail
     with_reducible refine C1.out.mono ?_
     rintro r w1 ⟨rfl,hk1⟩
     have HK1:Hid (SortAt (encT tc) 3 w b o (P ++ A1 ++ B1 ++ A2 ++ B2 ++ T) w1):=hid (by simpa using hk1)
     clear hk1
     have C2:=hid (HIH.out P A1 B1 (A2 ++ B2 ++ T) _ w1 l a i d (by have:=HNN.out; have:=HSZ.out; omega) HNN.out.1 HNN.out.2.2.1 HSA.out.1 HSA.out.2.2.1 (by simp) (by rw [HLN.out]; simp; omega) LP.out LS.out.1 (by have:=LS.out; have:=LA.out; omega) HK1.out hcap hcap2)
     go_wp2_with fail
     with_reducible refine C2.out.mono ?_
     rintro r w2 ⟨rfl,hk2⟩
     have HK2:Hid (SortAt (encT tc) 3 w b o (P ++ z0f le A1 B1 ++ A2 ++ B2 ++ T) w2):=hid (by simpa using hk2)
     clear hk2
     have HK3:Hid (SortAt (encT tc) 3 w b o (P ++ z0f le A B ++ T) w2):=hid (by
      have:=HK2.out
      rw [HMG.out]
      obtain ⟨-,hzB2⟩:=HZ.out
      subst hzB2
      simpa [z0g,z07] using this)
     go_wp2
     all_goals
      go_end0
      exact ⟨rfl,by first | (with_reducible exact HK3.out) | (rw [← List.append_assoc]; with_reducible exact HK3.out)⟩
    ·have f1:(m:Int) ≤ (i:Int):=by have:=LA.out; have:=LS.out; omega
     have f2:(m:Int) < (f:Int):=by have:=LA.out; have:=LS.out; omega
     have f3:(a:Int) < (i:Int):=by have:=LA.out; have:=LS.out; omega
     have f4:(i:Int) < (d:Int):=by have:=LA.out; have:=LS.out; omega
     have f5:(f:Int) ≤ (d:Int):=by have:=LA.out; have:=LS.out; omega
     have f6:(f:Int) < (e:Int):=by have:=LA.out; have:=LS.out; omega
     have hzA2:A2 = []:=List.length_eq_zero_iff.1 (by omega)
     have HZ:=hid (And.intro (rfl:0 = 0) hzA2)
     clear hzA2
     have HNN:=hid (And.intro n1 (And.intro n2 (And.intro n3 n4)))
     clear n1 n2 n3 n4
     have HK1:Hid (SortAt (encT tc) 3 w b o (P ++ A1 ++ B1 ++ A2 ++ B2 ++ T) wr):=hid (by
      have:=HK0.out
      obtain ⟨-,hzA2⟩:=HZ.out
      subst hzA2
      simpa using this)
     have C2:=hid (HIH.out P A1 B1 (A2 ++ B2 ++ T) _ wr l a i d (by have:=HNN.out; have:=HSZ.out; omega) HNN.out.1 HNN.out.2.2.1 HSA.out.1 HSA.out.2.2.1 (by simp) (by rw [HLN.out]; simp; omega) LP.out LS.out.1 (by have:=LS.out; have:=LA.out; omega) HK1.out hcap hcap2)
     go_wp2_with fail
     with_reducible refine C2.out.mono ?_
     rintro r w2 ⟨rfl,hk2⟩
     have HK2:Hid (SortAt (encT tc) 3 w b o (P ++ z0f le A1 B1 ++ A2 ++ B2 ++ T) w2):=hid (by simpa using hk2)
     clear hk2
     have HK3:Hid (SortAt (encT tc) 3 w b o (P ++ z0f le A B ++ T) w2):=hid (by
      have:=HK2.out
      rw [HMG.out]
      obtain ⟨-,hzA2⟩:=HZ.out
      subst hzA2
      simpa [z0g,z07] using this)
     go_wp2
     all_goals
      go_end0
      exact ⟨rfl,by first | (with_reducible exact HK3.out) | (rw [← List.append_assoc]; with_reducible exact HK3.out)⟩
    ·have f1:(i:Int) < (m:Int):=by have:=LA.out; have:=LS.out; omega
     have f2:(f:Int) ≤ (m:Int):=by have:=LA.out; have:=LS.out; omega
     have f3:(a:Int) < (i:Int):=by have:=LA.out; have:=LS.out; omega
     have f4:(d:Int) ≤ (i:Int):=by have:=LA.out; have:=LS.out; omega
     have f5:(d:Int) < (f:Int):=by have:=LA.out; have:=LS.out; omega
     have f6:(f:Int) < (e:Int):=by have:=LA.out; have:=LS.out; omega
     have hzB1:B1 = []:=List.length_eq_zero_iff.1 (by omega)
     have HZ:=hid (And.intro (rfl:0 = 0) hzB1)
     clear hzB1
     have HNN:=hid (And.intro n1 (And.intro n2 (And.intro n3 n4)))
     clear n1 n2 n3 n4
     have HK1:Hid (SortAt (encT tc) 3 w b o (P ++ A1 ++ B1 ++ A2 ++ B2 ++ T) wr):=hid (by
      have:=HK0.out
      obtain ⟨-,hzB1⟩:=HZ.out
      subst hzB1
      simpa using this)
     have HK2:Hid (SortAt (encT tc) 3 w b o (P ++ z0f le A1 B1 ++ A2 ++ B2 ++ T) wr):=hid (by
      have:=HK1.out
      obtain ⟨-,hzB1⟩:=HZ.out
      subst hzB1
      simpa [z0g,z07] using this)
     have C3:=hid (HIH.out (P ++ z0f le A1 B1) A2 B2 T _ wr l d f e (by have:=HNN.out; have:=HSZ.out; omega) HNN.out.2.1 HNN.out.2.2.2 HSA.out.2.1 HSA.out.2.2.2 (by simp) (by rw [HLN.out]; simp; omega) (by have:=LS.out; have:=LA.out; have:=LP.out; simp; omega) (by have:=LS.out; have:=LA.out; omega) (by have:=LS.out; have:=LA.out; omega) HK2.out hcap hcap2)
     go_wp2_with fail
     with_reducible refine C3.out.mono ?_
     rintro r w3 ⟨rfl,hk3⟩
     have HK3:Hid (SortAt (encT tc) 3 w b o (P ++ z0f le A B ++ T) w3):=hid (by rw [HMG.out]; simpa using hk3)
     clear hk3
     go_wp2
     all_goals
      go_end0
      exact ⟨rfl,by first | (with_reducible exact HK3.out) | (rw [← List.append_assoc]; with_reducible exact HK3.out)⟩
    ·have f1:(i:Int) < (m:Int):=by have:=LA.out; have:=LS.out; omega
     have f2:(f:Int) ≤ (m:Int):=by have:=LA.out; have:=LS.out; omega
     have f3:(a:Int) < (i:Int):=by have:=LA.out; have:=LS.out; omega
     have f4:(d:Int) ≤ (i:Int):=by have:=LA.out; have:=LS.out; omega
     have f5:(d:Int) < (f:Int):=by have:=LA.out; have:=LS.out; omega
     have f6:(e:Int) ≤ (f:Int):=by have:=LA.out; have:=LS.out; omega
     have hzB1:B1 = []:=List.length_eq_zero_iff.1 (by omega)
     have hzB2:B2 = []:=List.length_eq_zero_iff.1 (by omega)
     have HZ:=hid (And.intro (rfl:0 = 0) (And.intro hzB1 hzB2))
     clear hzB1
     clear hzB2
     have HNN:=hid (And.intro n1 (And.intro n2 (And.intro n3 n4)))
     clear n1 n2 n3 n4
     have HK1:Hid (SortAt (encT tc) 3 w b o (P ++ A1 ++ B1 ++ A2 ++ B2 ++ T) wr):=hid (by
      have:=HK0.out
      obtain ⟨-,hzB1,hzB2⟩:=HZ.out
      subst hzB1 hzB2
      simpa using this)
     have HK2:Hid (SortAt (encT tc) 3 w b o (P ++ z0f le A1 B1 ++ A2 ++ B2 ++ T) wr):=hid (by
      have:=HK1.out
      obtain ⟨-,hzB1,hzB2⟩:=HZ.out
      subst hzB1 hzB2
      simpa [z0g,z07] using this)
     have HK3:Hid (SortAt (encT tc) 3 w b o (P ++ z0f le A B ++ T) wr):=hid (by
      have:=HK2.out
      rw [HMG.out]
      obtain ⟨-,hzB1,hzB2⟩:=HZ.out
      subst hzB1 hzB2
      simpa [z0g,z07] using this)
     go_wp2
     all_goals
      go_end0
      exact ⟨rfl,by first | (with_reducible exact HK3.out) | (rw [← List.append_assoc]; with_reducible exact HK3.out)⟩
    ·have f1:(m:Int) ≤ (i:Int):=by have:=LA.out; have:=LS.out; omega
     have f2:(f:Int) ≤ (m:Int):=by have:=LA.out; have:=LS.out; omega
     have f3:(a:Int) < (i:Int):=by have:=LA.out; have:=LS.out; omega
     have f4:(d:Int) ≤ (i:Int):=by have:=LA.out; have:=LS.out; omega
     have f5:(f:Int) ≤ (d:Int):=by have:=LA.out; have:=LS.out; omega
     have f6:(f:Int) < (e:Int):=by have:=LA.out; have:=LS.out; omega
     have hzA2:A2 = []:=List.length_eq_zero_iff.1 (by omega)
     have hzB1:B1 = []:=List.length_eq_zero_iff.1 (by omega)
     have HZ:=hid (And.intro (rfl:0 = 0) (And.intro hzA2 hzB1))
     clear hzA2
     clear hzB1
     have HNN:=hid (And.intro n1 (And.intro n2 (And.intro n3 n4)))
     clear n1 n2 n3 n4
     have HK1:Hid (SortAt (encT tc) 3 w b o (P ++ A1 ++ B1 ++ A2 ++ B2 ++ T) wr):=hid (by
      have:=HK0.out
      obtain ⟨-,hzA2,hzB1⟩:=HZ.out
      subst hzA2 hzB1
      simpa using this)
     have HK2:Hid (SortAt (encT tc) 3 w b o (P ++ z0f le A1 B1 ++ A2 ++ B2 ++ T) wr):=hid (by
      have:=HK1.out
      obtain ⟨-,hzA2,hzB1⟩:=HZ.out
      subst hzA2 hzB1
      simpa [z0g,z07] using this)
     have HK3:Hid (SortAt (encT tc) 3 w b o (P ++ z0f le A B ++ T) wr):=hid (by
      have:=HK2.out
      rw [HMG.out]
      obtain ⟨-,hzA2,hzB1⟩:=HZ.out
      subst hzA2 hzB1
      simpa [z0g,z07] using this)
     go_wp2
     all_goals
      go_end0
      exact ⟨rfl,by first | (with_reducible exact HK3.out) | (rw [← List.append_assoc]; with_reducible exact HK3.out)⟩
    ·have f1:(i:Int) < (m:Int):=by have:=LA.out; have:=LS.out; omega
     have f2:(m:Int) < (f:Int):=by have:=LA.out; have:=LS.out; omega
     have f3:(i:Int) ≤ (a:Int):=by have:=LA.out; have:=LS.out; omega
     have f4:(i:Int) < (d:Int):=by have:=LA.out; have:=LS.out; omega
     have f5:(d:Int) < (f:Int):=by have:=LA.out; have:=LS.out; omega
     have f6:(f:Int) < (e:Int):=by have:=LA.out; have:=LS.out; omega
     have hzA1:A1 = []:=List.length_eq_zero_iff.1 (by omega)
     have HZ:=hid (And.intro (rfl:0 = 0) hzA1)
     clear hzA1
     have HN1:=hid (And.intro n2 n3)
     have HNN:=hid (And.intro n1 (And.intro n2 (And.intro n3 n4)))
     clear n1 n2 n3 n4
     have C1:=hid (z4n (tc:=tc) (cap:=cap) (l:=l) (za:=(i:Int)) (zm:=(m:Int)) (zb:=(f:Int)) (cv:=.func (.func 163) #[] #[]) (P ++ A1) A2 B1 (B2 ++ T) wr (by simp) (by rw [HLN.out]; simp; omega) (by have:=LS.out; have:=LP.out; simp; omega) (by have:=LS.out; have:=LP.out; have:=LA.out; simp; omega) (by have:=LS.out; have:=LP.out; have:=LA.out; simp; omega) HK0.out (by intro hn; have:=HNN.out; rw [hn] at this; simp at this) (by intro hn; have:=HNN.out; rw [hn] at this; simp at this) hcap hcap2)
     go_wp2_with fail
     with_reducible refine C1.out.mono ?_
     rintro r w1 ⟨rfl,hk1⟩
     have HK1:Hid (SortAt (encT tc) 3 w b o (P ++ A1 ++ B1 ++ A2 ++ B2 ++ T) w1):=hid (by simpa using hk1)
     clear hk1
     have HK2:Hid (SortAt (encT tc) 3 w b o (P ++ z0f le A1 B1 ++ A2 ++ B2 ++ T) w1):=hid (by
      have:=HK1.out
      obtain ⟨-,hzA1⟩:=HZ.out
      subst hzA1
      simpa [z0g,z07] using this)
     have C3:=hid (HIH.out (P ++ z0f le A1 B1) A2 B2 T _ w1 l d f e (by have:=HNN.out; have:=HSZ.out; omega) HNN.out.2.1 HNN.out.2.2.2 HSA.out.2.1 HSA.out.2.2.2 (by simp) (by rw [HLN.out]; simp; omega) (by have:=LS.out; have:=LA.out; have:=LP.out; simp; omega) (by have:=LS.out; have:=LA.out; omega) (by have:=LS.out; have:=LA.out; omega) HK2.out hcap hcap2)
     go_wp2_with fail
     with_reducible refine C3.out.mono ?_
     rintro r w3 ⟨rfl,hk3⟩
     have HK3:Hid (SortAt (encT tc) 3 w b o (P ++ z0f le A B ++ T) w3):=hid (by rw [HMG.out]; simpa using hk3)
     clear hk3
     go_wp2
     all_goals
      go_end0
      exact ⟨rfl,by first | (with_reducible exact HK3.out) | (rw [← List.append_assoc]; with_reducible exact HK3.out)⟩
    ·have f1:(i:Int) < (m:Int):=by have:=LA.out; have:=LS.out; omega
     have f2:(m:Int) < (f:Int):=by have:=LA.out; have:=LS.out; omega
     have f3:(i:Int) ≤ (a:Int):=by have:=LA.out; have:=LS.out; omega
     have f4:(i:Int) < (d:Int):=by have:=LA.out; have:=LS.out; omega
     have f5:(d:Int) < (f:Int):=by have:=LA.out; have:=LS.out; omega
     have f6:(e:Int) ≤ (f:Int):=by have:=LA.out; have:=LS.out; omega
     have hzA1:A1 = []:=List.length_eq_zero_iff.1 (by omega)
     have hzB2:B2 = []:=List.length_eq_zero_iff.1 (by omega)
     have HZ:=hid (And.intro (rfl:0 = 0) (And.intro hzA1 hzB2))
     clear hzA1
     clear hzB2
     have HN1:=hid (And.intro n2 n3)
     have HNN:=hid (And.intro n1 (And.intro n2 (And.intro n3 n4)))
     clear n1 n2 n3 n4
     have C1:=hid (z4n (tc:=tc) (cap:=cap) (l:=l) (za:=(i:Int)) (zm:=(m:Int)) (zb:=(f:Int)) (cv:=.func (.func 163) #[] #[]) (P ++ A1) A2 B1 (B2 ++ T) wr (by simp) (by rw [HLN.out]; simp; omega) (by have:=LS.out; have:=LP.out; simp; omega) (by have:=LS.out; have:=LP.out; have:=LA.out; simp; omega) (by have:=LS.out; have:=LP.out; have:=LA.out; simp; omega) HK0.out (by intro hn; have:=HNN.out; rw [hn] at this; simp at this) (by intro hn; have:=HNN.out; rw [hn] at this; simp at this) hcap hcap2)
     go_wp2_with fail
     with_reducible refine C1.out.mono ?_
     rintro r w1 ⟨rfl,hk1⟩
     have HK1:Hid (SortAt (encT tc) 3 w b o (P ++ A1 ++ B1 ++ A2 ++ B2 ++ T) w1):=hid (by simpa using hk1)
     clear hk1
     have HK2:Hid (SortAt (encT tc) 3 w b o (P ++ z0f le A1 B1 ++ A2 ++ B2 ++ T) w1):=hid (by
      have:=HK1.out
      obtain ⟨-,hzA1,hzB2⟩:=HZ.out
      subst hzA1 hzB2
      simpa [z0g,z07] using this)
     have HK3:Hid (SortAt (encT tc) 3 w b o (P ++ z0f le A B ++ T) w1):=hid (by
      have:=HK2.out
      rw [HMG.out]
      obtain ⟨-,hzA1,hzB2⟩:=HZ.out
      subst hzA1 hzB2
      simpa [z0g,z07] using this)
     go_wp2
     all_goals
      go_end0
      exact ⟨rfl,by first | (with_reducible exact HK3.out) | (rw [← List.append_assoc]; with_reducible exact HK3.out)⟩
    ·have f1:(m:Int) ≤ (i:Int):=by have:=LA.out; have:=LS.out; omega
     have f2:(m:Int) < (f:Int):=by have:=LA.out; have:=LS.out; omega
     have f3:(i:Int) ≤ (a:Int):=by have:=LA.out; have:=LS.out; omega
     have f4:(i:Int) < (d:Int):=by have:=LA.out; have:=LS.out; omega
     have f5:(f:Int) ≤ (d:Int):=by have:=LA.out; have:=LS.out; omega
     have f6:(f:Int) < (e:Int):=by have:=LA.out; have:=LS.out; omega
     have hzA1:A1 = []:=List.length_eq_zero_iff.1 (by omega)
     have hzA2:A2 = []:=List.length_eq_zero_iff.1 (by omega)
     have HZ:=hid (And.intro (rfl:0 = 0) (And.intro hzA1 hzA2))
     clear hzA1
     clear hzA2
     have HNN:=hid (And.intro n1 (And.intro n2 (And.intro n3 n4)))
     clear n1 n2 n3 n4
     have HK1:Hid (SortAt (encT tc) 3 w b o (P ++ A1 ++ B1 ++ A2 ++ B2 ++ T) wr):=hid (by
      have:=HK0.out
      obtain ⟨-,hzA1,hzA2⟩:=HZ.out
      subst hzA1 hzA2
      simpa using this)
     have HK2:Hid (SortAt (encT tc) 3 w b o (P ++ z0f le A1 B1 ++ A2 ++ B2 ++ T) wr):=hid (by
      have:=HK1.out
      obtain ⟨-,hzA1,hzA2⟩:=HZ.out
      subst hzA1 hzA2
      simpa [z0g,z07] using this)
     have HK3:Hid (SortAt (encT tc) 3 w b o (P ++ z0f le A B ++ T) wr):=hid (by
      have:=HK2.out
      rw [HMG.out]
      obtain ⟨-,hzA1,hzA2⟩:=HZ.out
      subst hzA1 hzA2
      simpa [z0g,z07] using this)
     go_wp2
     all_goals
      go_end0
      exact ⟨rfl,by first | (with_reducible exact HK3.out) | (rw [← List.append_assoc]; with_reducible exact HK3.out)⟩
 ·have q3:¬ (m:Int) > (d:Int):=by omega
  have HG:Hid (z4v a m e d a m):=.inr ⟨hdm,rfl,rfl⟩
  have hlh:a ≤ m:=by omega
  go_enter Tryz.func178,Tryz.ntmps178
  go_wp2
  go_loopw [20,21] (fun vi vj wr => ∃ i j lo hi:Nat,vi = .int .i64 i ∧ vj = .int .i64 j ∧ Hid (z4v a m e d lo hi) ∧ lo ≤ i ∧ i ≤ j ∧ j ≤ hi ∧ Hid (i = lo ∨ ∃ x z,cur[i - 1]? = some x ∧ cur[d + m - i]? = some z ∧ le x z = true) ∧ Hid (j = hi ∨ ∃ x z,cur[j]? = some x ∧ cur[d + m - j - 1]? = some z ∧ le x z = false) ∧ SortAt (encT tc) 3 w b o cur wr) (fun vi vj _ => (intOf vj).toNat - (intOf vi).toNat)
  case atStart => exact ⟨a,m,a,m,rfl,rfl,HG,Nat.le_refl _,hlh,Nat.le_refl _,.inl rfl,.inl rfl,H.out⟩
  case round =>
   clear HG q3 hlh hdm
   obtain ⟨i,j,lo,hi,rfl,rfl,HG,hli,hij,hjh,HI,HJ,hs⟩:=hrel
   have HS:=hid hs
   have hb:a ≤ lo ∧ hi ≤ m ∧ hi ≤ d ∧ d + m ≤ lo + e:=by have:=HG.out; unfold z4v at this; omega
   obtain ⟨hb1,hb2,hb3,hb4⟩:=hb
   by_cases hlt:i < j
   ·obtain ⟨h,hh⟩:∃ h,h = (i + j) / 2:=⟨_,rfl⟩
    have hh1:i ≤ h:=by omega
    have hh2:h < j:=by omega
    obtain ⟨g,hg⟩:∃ g,g = d + m - h - 1:=⟨_,rfl⟩
    have hge:g < e:=by omega
    obtain ⟨x,hx⟩:=z00 (l:=cur) (j:=h) (by rw [← HLL.out]; omega)
    obtain ⟨z,hz⟩:=z00 (l:=cur) (j:=g) (by rw [← HLL.out]; omega)
    have HX:=hid hx
    have HZ:=hid hz
    have p1:((i:Int) + (j:Int)) / 2 = (h:Int):=by omega
    have p2:(d:Int) + (m:Int) - 1 - (h:Int) = (g:Int):=by omega
    have p3:(g:Int) < (l:Int):=by omega
    have p4:(h:Int) < (l:Int):=by omega
    have L0:=fun Y:Later wr => (hs.later Y.h).get3 hz
    have L1:=fun Y:Later wr => (hs.later Y.h).get3 hx
    have LC:=fun Y:Later wr => HC.out Y.w' (hs.later Y.h).grown z x
    have a0:=fun Y => (L0 Y).1.1
    have a1:=fun Y => (L0 Y).1.2.1
    have a2:=fun Y => (L0 Y).1.2.2
    have b0:=fun Y => (L1 Y).1.1
    have b1:=fun Y => (L1 Y).1.2.1
    have b2:=fun Y => (L1 Y).1.2.2
    obtain ⟨r1,r2⟩:=HL.out.range z x
    have HLE:=hid (HL.out.eq z x)
    have HH:=hid hh
    have HGG:=hid hg
    generalize cf z x = c at *
    have HLC:=hid LC
    clear L0 L1 LC hs hz hx hh hg
    by_cases hcc:c < 0
    ·go_wp2
     refine z04 (by kernel_rfl) (by kernel_rfl) ?_
     repeat (go_big_quiet_step (first | (go_at_call 163; exact Later.done (HLC.out _))))
     refine wpQuiet_nil ?_
     intro W2 hW2
     clear a0 a1 a2 b0 b1 b2
     have HD2:=hid (HS.out.later hW2)
     clear hW2
     go_wp2
     go_roundw
     case rel =>
      refine ⟨i,h,lo,hi,rfl,rfl,HG,hli,hh1,by omega,HI,.inr ⟨x,z,HX.out,by rw [← HGG.out]; exact HZ.out,?_⟩,HD2.out⟩
      rw [HLE.out]; exact decide_eq_false (by omega)
     case measure => simp only [intOf]; omega
    ·have q4:decide (c < 0) = false:=decide_eq_false hcc
     have q5:c + 1 > 0:=by omega
     have HCC:=hid hcc
     clear hcc
     go_wp2
     refine z04 (by kernel_rfl) (by kernel_rfl) ?_
     repeat (go_big_quiet_step (first | (go_at_call 163; exact Later.done (HLC.out _))))
     refine wpQuiet_nil ?_
     intro W2 hW2
     clear a0 a1 a2 b0 b1 b2
     have HD2:=hid (HS.out.later hW2)
     clear hW2
     go_wp2
     go_roundw
     case rel =>
      refine ⟨h + 1,j,lo,hi,by go_num,rfl,HG,by omega,by omega,hjh,.inr ⟨x,z,by rw [Nat.add_sub_cancel]; exact HX.out,by rw [show d + m - (h + 1) = g by have:=HGG.out; omega]; exact HZ.out,?_⟩,HJ,HD2.out⟩
      rw [HLE.out]; exact decide_eq_true (by have:=HCC.out; omega)
     case measure => simp only [intOf]; omega
   ·obtain rfl:i = j:=by omega
    obtain ⟨f,hf⟩:∃ f,f + i = d + m:=⟨d + m - i,by omega⟩
    obtain ⟨A1,A2,B1,B2,hA12,hB12,hsA,hfB,hmg⟩:=zdo (f:=f) HL.out.total hA hB HCUR.out HA.out HM.out HE.out HD.out HG.out hli hjh hf (by
     have:=HI.out
     rwa [show d + m - i = f by omega] at this) (by
     have:=HJ.out
     rwa [show d + m - i - 1 = f - 1 by omega] at this)
    have p1:(d:Int) + (m:Int) - (i:Int) = (f:Int):=by omega
    have lA:=HM.out
    have lB:=HE.out
    rw [hA12] at lA
    rw [hB12] at lB
    simp only [List.length_append] at lA lB
    have lP:=HA.out
    have HMG:=hid hmg
    have HK0:Hid (SortAt (encT tc) 3 w b o (P ++ A1 ++ A2 ++ B1 ++ B2 ++ T) wr):=hid (by
     have:=HS.out
     rw [HCUR.out,hA12,hB12] at this
     simpa using this)
    have HLN:Hid (l = P.length + A1.length + A2.length + B1.length + B2.length + T.length):=hid (by rw [HLL.out,HCUR.out,hA12,hB12]; simp; omega)
    have HSZ:Hid (A.length = A1.length + A2.length ∧ B.length = B1.length + B2.length):=hid (by rw [hA12,hB12]; simp)
    have HSA:Hid (z0w le A1 ∧ z0w le A2 ∧ z0w le B1 ∧ z0w le B2):=hid (by
     rw [hA12] at hA
     rw [hB12] at hB
     have h1:=List.pairwise_append.1 hA
     have h2:=List.pairwise_append.1 hB
     exact ⟨h1.1,h1.2.1,h2.1,h2.2.1⟩)
    have LP:=hid lP
    have LA:=hid (And.intro lA lB)
    have LS:=hid (And.intro hsA (And.intro hfB hf))
    have hmle:m ≤ l:=by omega
    have hfle:f ≤ l:=by omega
    clear hs hA12 hB12 hmg hli hij hjh hb1 hb2 hb3 hb4 hlt lA lB lP hsA hfB hf
    rcases (show (0 < A1.length ∧ 0 < A2.length ∧ 0 < B1.length ∧ 0 < B2.length) ∨ (0 < A1.length ∧ 0 < A2.length ∧ 0 < B1.length ∧ B2.length = 0) ∨ (0 < A1.length ∧ A2.length = 0 ∧ 0 < B1.length ∧ 0 < B2.length) ∨ (0 < A1.length ∧ 0 < A2.length ∧ B1.length = 0 ∧ 0 < B2.length) ∨ (0 < A1.length ∧ 0 < A2.length ∧ B1.length = 0 ∧ B2.length = 0) ∨ (0 < A1.length ∧ A2.length = 0 ∧ B1.length = 0 ∧ 0 < B2.length) ∨ (A1.length = 0 ∧ 0 < A2.length ∧ 0 < B1.length ∧ 0 < B2.length) ∨ (A1.length = 0 ∧ 0 < A2.length ∧ 0 < B1.length ∧ B2.length = 0) ∨ (A1.length = 0 ∧ A2.length = 0 ∧ 0 < B1.length ∧ 0 < B2.length) by have:=LA.out; have:=LS.out; omega) with ⟨n1,n2,n3,n4⟩ | ⟨n1,n2,n3,n4⟩ | ⟨n1,n2,n3,n4⟩ | ⟨n1,n2,n3,n4⟩ | ⟨n1,n2,n3,n4⟩ | ⟨n1,n2,n3,n4⟩ | ⟨n1,n2,n3,n4⟩ | ⟨n1,n2,n3,n4⟩ | ⟨n1,n2,n3,n4⟩
    ·have f1:(i:Int) < (m:Int):=by have:=LA.out; have:=LS.out; omega
     have f2:(m:Int) < (f:Int):=by have:=LA.out; have:=LS.out; omega
     have f3:(a:Int) < (i:Int):=by have:=LA.out; have:=LS.out; omega
     have f4:(i:Int) < (d:Int):=by have:=LA.out; have:=LS.out; omega
     have f5:(d:Int) < (f:Int):=by have:=LA.out; have:=LS.out; omega
     have f6:(f:Int) < (e:Int):=by have:=LA.out; have:=LS.out; omega
     have HN1:=hid (And.intro n2 n3)
     have HNN:=hid (And.intro n1 (And.intro n2 (And.intro n3 n4)))
     clear n1 n2 n3 n4
     have C1:=hid (z4n (tc:=tc) (cap:=cap) (l:=l) (za:=(i:Int)) (zm:=(m:Int)) (zb:=(f:Int)) (cv:=.func (.func 163) #[] #[]) (P ++ A1) A2 B1 (B2 ++ T) wr (by simp) (by rw [HLN.out]; simp; omega) (by have:=LS.out; have:=LP.out; simp; omega) (by have:=LS.out; have:=LP.out; have:=LA.out; simp; omega) (by have:=LS.out; have:=LP.out; have:=LA.out; simp; omega) HK0.out (by intro hn; have:=HNN.out; rw [hn] at this; simp at this) (by intro hn; have:=HNN.out; rw [hn] at this; simp at this) hcap hcap2)
     go_wp2_with fail
     with_reducible refine C1.out.mono ?_
     rintro r w1 ⟨rfl,hk1⟩
     have HK1:Hid (SortAt (encT tc) 3 w b o (P ++ A1 ++ B1 ++ A2 ++ B2 ++ T) w1):=hid (by simpa using hk1)
     clear hk1
     have C2:=hid (HIH.out P A1 B1 (A2 ++ B2 ++ T) _ w1 l a i d (by have:=HNN.out; have:=HSZ.out; omega) HNN.out.1 HNN.out.2.2.1 HSA.out.1 HSA.out.2.2.1 (by simp) (by rw [HLN.out]; simp; omega) LP.out LS.out.1 (by have:=LS.out; have:=LA.out; omega) HK1.out hcap hcap2)
     go_wp2_with fail
     with_reducible refine C2.out.mono ?_
     rintro r w2 ⟨rfl,hk2⟩
     have HK2:Hid (SortAt (encT tc) 3 w b o (P ++ z0f le A1 B1 ++ A2 ++ B2 ++ T) w2):=hid (by simpa using hk2)
     clear hk2
     have C3:=hid (HIH.out (P ++ z0f le A1 B1) A2 B2 T _ w2 l d f e (by have:=HNN.out; have:=HSZ.out; omega) HNN.out.2.1 HNN.out.2.2.2 HSA.out.2.1 HSA.out.2.2.2 (by simp) (by rw [HLN.out]; simp; omega) (by have:=LS.out; have:=LA.out; have:=LP.out; simp; omega) (by have:=LS.out; have:=LA.out; omega) (by have:=LS.out; have:=LA.out; omega) HK2.out hcap hcap2)
     go_wp2_with fail
     with_reducible refine C3.out.mono ?_
     rintro r w3 ⟨rfl,hk3⟩
     have HK3:Hid (SortAt (encT tc) 3 w b o (P ++ z0f le A B ++ T) w3):=hid (by rw [HMG.out]; simpa using hk3)
     clear hk3
     go_wp2
     all_goals
      go_end0
      exact ⟨rfl,by first | (with_reducible exact HK3.out) | (rw [← List.append_assoc]; with_reducible exact HK3.out)⟩
    ·have f1:(i:Int) < (m:Int):=by have:=LA.out; have:=LS.out; omega
     have f2:(m:Int) < (f:Int):=by have:=LA.out; have:=LS.out; omega
     have f3:(a:Int) < (i:Int):=by have:=LA.out; have:=LS.out; omega
     have f4:(i:Int) < (d:Int):=by have:=LA.out; have:=LS.out; omega
     have f5:(d:Int) < (f:Int):=by have:=LA.out; have:=LS.out; omega
     have f6:(e:Int) ≤ (f:Int):=by have:=LA.out; have:=LS.out; omega
     have hzB2:B2 = []:=List.length_eq_zero_iff.1 (by omega)
     have HZ:=hid (And.intro (rfl:0 = 0) hzB2)
     clear hzB2
     have HN1:=hid (And.intro n2 n3)
     have HNN:=hid (And.intro n1 (And.intro n2 (And.intro n3 n4)))
     clear n1 n2 n3 n4
     have C1:=hid (z4n (tc:=tc) (cap:=cap) (l:=l) (za:=(i:Int)) (zm:=(m:Int)) (zb:=(f:Int)) (cv:=.func (.func 163) #[] #[]) (P ++ A1) A2 B1 (B2 ++ T) wr (by simp) (by rw [HLN.out]; simp; omega) (by have:=LS.out; have:=LP.out; simp; omega) (by have:=LS.out; have:=LP.out; have:=LA.out; simp; omega) (by have:=LS.out; have:=LP.out; have:=LA.out; simp; omega) HK0.out (by intro hn; have:=HNN.out; rw [hn] at this; simp at this) (by intro hn; have:=HNN.out; rw [hn] at this; simp at this) hcap hcap2)
     go_wp2_with fail
     with_reducible refine C1.out.mono ?_
     rintro r w1 ⟨rfl,hk1⟩
     have HK1:Hid (SortAt (encT tc) 3 w b o (P ++ A1 ++ B1 ++ A2 ++ B2 ++ T) w1):=hid (by simpa using hk1)
     clear hk1
     have C2:=hid (HIH.out P A1 B1 (A2 ++ B2 ++ T) _ w1 l a i d (by have:=HNN.out; have:=HSZ.out; omega) HNN.out.1 HNN.out.2.2.1 HSA.out.1 HSA.out.2.2.1 (by simp) (by rw [HLN.out]; simp; omega) LP.out LS.out.1 (by have:=LS.out; have:=LA.out; omega) HK1.out hcap hcap2)
     go_wp2_with fail
     with_reducible refine C2.out.mono ?_
     rintro r w2 ⟨rfl,hk2⟩
     have HK2:Hid (SortAt (encT tc) 3 w b o (P ++ z0f le A1 B1 ++ A2 ++ B2 ++ T) w2):=hid (by simpa using hk2)
     clear hk2
     have HK3:Hid (SortAt (encT tc) 3 w b o (P ++ z0f le A B ++ T) w2):=hid (by
      have:=HK2.out
      rw [HMG.out]
      obtain ⟨-,hzB2⟩:=HZ.out
      subst hzB2
      simpa [z0g,z07] using this)
     go_wp2
     all_goals
      go_end0
      exact ⟨rfl,by first | (with_reducible exact HK3.out) | (rw [← List.append_assoc]; with_reducible exact HK3.out)⟩
    ·have f1:(m:Int) ≤ (i:Int):=by have:=LA.out; have:=LS.out; omega
     have f2:(m:Int) < (f:Int):=by have:=LA.out; have:=LS.out; omega
     have f3:(a:Int) < (i:Int):=by have:=LA.out; have:=LS.out; omega
     have f4:(i:Int) < (d:Int):=by have:=LA.out; have:=LS.out; omega
     have f5:(f:Int) ≤ (d:Int):=by have:=LA.out; have:=LS.out; omega
     have f6:(f:Int) < (e:Int):=by have:=LA.out; have:=LS.out; omega
     have hzA2:A2 = []:=List.length_eq_zero_iff.1 (by omega)
     have HZ:=hid (And.intro (rfl:0 = 0) hzA2)
     clear hzA2
     have HNN:=hid (And.intro n1 (And.intro n2 (And.intro n3 n4)))
     clear n1 n2 n3 n4
     have HK1:Hid (SortAt (encT tc) 3 w b o (P ++ A1 ++ B1 ++ A2 ++ B2 ++ T) wr):=hid (by
      have:=HK0.out
      obtain ⟨-,hzA2⟩:=HZ.out
      subst hzA2
      simpa using this)
     have C2:=hid (HIH.out P A1 B1 (A2 ++ B2 ++ T) _ wr l a i d (by have:=HNN.out; have:=HSZ.out; omega) HNN.out.1 HNN.out.2.2.1 HSA.out.1 HSA.out.2.2.1 (by simp) (by rw [HLN.out]; simp; omega) LP.out LS.out.1 (by have:=LS.out; have:=LA.out; omega) HK1.out hcap hcap2)
     go_wp2_with fail
     with_reducible refine C2.out.mono ?_
     rintro r w2 ⟨rfl,hk2⟩
     have HK2:Hid (SortAt (encT tc) 3 w b o (P ++ z0f le A1 B1 ++ A2 ++ B2 ++ T) w2):=hid (by simpa using hk2)
     clear hk2
     have HK3:Hid (SortAt (encT tc) 3 w b o (P ++ z0f le A B ++ T) w2):=hid (by
      have:=HK2.out
      rw [HMG.out]
      obtain ⟨-,hzA2⟩:=HZ.out
      subst hzA2
      simpa [z0g,z07] using this)
     go_wp2
     all_goals
      go_end0
      exact ⟨rfl,by first | (with_reducible exact HK3.out) | (rw [← List.append_assoc]; with_reducible exact HK3.out)⟩
    ·have f1:(i:Int) < (m:Int):=by have:=LA.out; have:=LS.out; omega
     have f2:(f:Int) ≤ (m:Int):=by have:=LA.out; have:=LS.out; omega
     have f3:(a:Int) < (i:Int):=by have:=LA.out; have:=LS.out; omega
     have f4:(d:Int) ≤ (i:Int):=by have:=LA.out; have:=LS.out; omega
     have f5:(d:Int) < (f:Int):=by have:=LA.out; have:=LS.out; omega
     have f6:(f:Int) < (e:Int):=by have:=LA.out; have:=LS.out; omega
     have hzB1:B1 = []:=List.length_eq_zero_iff.1 (by omega)
     have HZ:=hid (And.intro (rfl:0 = 0) hzB1)
     clear hzB1
     have HNN:=hid (And.intro n1 (And.intro n2 (And.intro n3 n4)))
     clear n1 n2 n3 n4
     have HK1:Hid (SortAt (encT tc) 3 w b o (P ++ A1 ++ B1 ++ A2 ++ B2 ++ T) wr):=hid (by
      have:=HK0.out
      obtain ⟨-,hzB1⟩:=HZ.out
      subst hzB1
      simpa using this)
     have HK2:Hid (SortAt (encT tc) 3 w b o (P ++ z0f le A1 B1 ++ A2 ++ B2 ++ T) wr):=hid (by
      have:=HK1.out
      obtain ⟨-,hzB1⟩:=HZ.out
      subst hzB1
      simpa [z0g,z07] using this)
     have C3:=hid (HIH.out (P ++ z0f le A1 B1) A2 B2 T _ wr l d f e (by have:=HNN.out; have:=HSZ.out; omega) HNN.out.2.1 HNN.out.2.2.2 HSA.out.2.1 HSA.out.2.2.2 (by simp) (by rw [HLN.out]; simp; omega) (by have:=LS.out; have:=LA.out; have:=LP.out; simp; omega) (by have:=LS.out; have:=LA.out; omega) (by have:=LS.out; have:=LA.out; omega) HK2.out hcap hcap2)
     go_wp2_with fail
     with_reducible refine C3.out.mono ?_
     rintro r w3 ⟨rfl,hk3⟩
     have HK3:Hid (SortAt (encT tc) 3 w b o (P ++ z0f le A B ++ T) w3):=hid (by rw [HMG.out]; simpa using hk3)
     clear hk3
     go_wp2
     all_goals
      go_end0
      exact ⟨rfl,by first | (with_reducible exact HK3.out) | (rw [← List.append_assoc]; with_reducible exact HK3.out)⟩
    ·have f1:(i:Int) < (m:Int):=by have:=LA.out; have:=LS.out; omega
     have f2:(f:Int) ≤ (m:Int):=by have:=LA.out; have:=LS.out; omega
     have f3:(a:Int) < (i:Int):=by have:=LA.out; have:=LS.out; omega
     have f4:(d:Int) ≤ (i:Int):=by have:=LA.out; have:=LS.out; omega
     have f5:(d:Int) < (f:Int):=by have:=LA.out; have:=LS.out; omega
     have f6:(e:Int) ≤ (f:Int):=by have:=LA.out; have:=LS.out; omega
     have hzB1:B1 = []:=List.length_eq_zero_iff.1 (by omega)
     have hzB2:B2 = []:=List.length_eq_zero_iff.1 (by omega)
     have HZ:=hid (And.intro (rfl:0 = 0) (And.intro hzB1 hzB2))
     clear hzB1
     clear hzB2
     have HNN:=hid (And.intro n1 (And.intro n2 (And.intro n3 n4)))
     clear n1 n2 n3 n4
     have HK1:Hid (SortAt (encT tc) 3 w b o (P ++ A1 ++ B1 ++ A2 ++ B2 ++ T) wr):=hid (by
      have:=HK0.out
      obtain ⟨-,hzB1,hzB2⟩:=HZ.out
      subst hzB1 hzB2
      simpa using this)
     have HK2:Hid (SortAt (encT tc) 3 w b o (P ++ z0f le A1 B1 ++ A2 ++ B2 ++ T) wr):=hid (by
      have:=HK1.out
      obtain ⟨-,hzB1,hzB2⟩:=HZ.out
      subst hzB1 hzB2
      simpa [z0g,z07] using this)
     have HK3:Hid (SortAt (encT tc) 3 w b o (P ++ z0f le A B ++ T) wr):=hid (by
      have:=HK2.out
      rw [HMG.out]
      obtain ⟨-,hzB1,hzB2⟩:=HZ.out
      subst hzB1 hzB2
      simpa [z0g,z07] using this)
     go_wp2
     all_goals
      go_end0
      exact ⟨rfl,by first | (with_reducible exact HK3.out) | (rw [← List.append_assoc]; with_reducible exact HK3.out)⟩
    ·have f1:(m:Int) ≤ (i:Int):=by have:=LA.out; have:=LS.out; omega
     have f2:(f:Int) ≤ (m:Int):=by have:=LA.out; have:=LS.out; omega
     have f3:(a:Int) < (i:Int):=by have:=LA.out; have:=LS.out; omega
     have f4:(d:Int) ≤ (i:Int):=by have:=LA.out; have:=LS.out; omega
     have f5:(f:Int) ≤ (d:Int):=by have:=LA.out; have:=LS.out; omega
     have f6:(f:Int) < (e:Int):=by have:=LA.out; have:=LS.out; omega
     have hzA2:A2 = []:=List.length_eq_zero_iff.1 (by omega)
     have hzB1:B1 = []:=List.length_eq_zero_iff.1 (by omega)
     have HZ:=hid (And.intro (rfl:0 = 0) (And.intro hzA2 hzB1))
     clear hzA2
     clear hzB1
     have HNN:=hid (And.intro n1 (And.intro n2 (And.intro n3 n4)))
     clear n1 n2 n3 n4
     have HK1:Hid (SortAt (encT tc) 3 w b o (P ++ A1 ++ B1 ++ A2 ++ B2 ++ T) wr):=hid (by
      have:=HK0.out
      obtain ⟨-,hzA2,hzB1⟩:=HZ.out
      subst hzA2 hzB1
      simpa using this)
     have HK2:Hid (SortAt (encT tc) 3 w b o (P ++ z0f le A1 B1 ++ A2 ++ B2 ++ T) wr):=hid (by
      have:=HK1.out
      obtain ⟨-,hzA2,hzB1⟩:=HZ.out
      subst hzA2 hzB1
      simpa [z0g,z07] using this)
     have HK3:Hid (SortAt (encT tc) 3 w b o (P ++ z0f le A B ++ T) wr):=hid (by
      have:=HK2.out
      rw [HMG.out]
      obtain ⟨-,hzA2,hzB1⟩:=HZ.out
      subst hzA2 hzB1
      simpa [z0g,z07] using this)
     go_wp2
     all_goals
      go_end0
      exact ⟨rfl,by first | (with_reducible exact HK3.out) | (rw [← List.append_assoc]; with_reducible exact HK3.out)⟩
    ·have f1:(i:Int) < (m:Int):=by have:=LA.out; have:=LS.out; omega
     have f2:(m:Int) < (f:Int):=by have:=LA.out; have:=LS.out; omega
     have f3:(i:Int) ≤ (a:Int):=by have:=LA.out; have:=LS.out; omega
     have f4:(i:Int) < (d:Int):=by have:=LA.out; have:=LS.out; omega
     have f5:(d:Int) < (f:Int):=by have:=LA.out; have:=LS.out; omega
     have f6:(f:Int) < (e:Int):=by have:=LA.out; have:=LS.out; omega
     have hzA1:A1 = []:=List.length_eq_zero_iff.1 (by omega)
     have HZ:=hid (And.intro (rfl:0 = 0) hzA1)
     clear hzA1
     have HN1:=hid (And.intro n2 n3)
     have HNN:=hid (And.intro n1 (And.intro n2 (And.intro n3 n4)))
     clear n1 n2 n3 n4
     have C1:=hid (z4n (tc:=tc) (cap:=cap) (l:=l) (za:=(i:Int)) (zm:=(m:Int)) (zb:=(f:Int)) (cv:=.func (.func 163) #[] #[]) (P ++ A1) A2 B1 (B2 ++ T) wr (by simp) (by rw [HLN.out]; simp; omega) (by have:=LS.out; have:=LP.out; simp; omega) (by have:=LS.out; have:=LP.out; have:=LA.out; simp; omega) (by have:=LS.out; have:=LP.out; have:=LA.out; simp; omega) HK0.out (by intro hn; have:=HNN.out; rw [hn] at this; simp at this) (by intro hn; have:=HNN.out; rw [hn] at this; simp at this) hcap hcap2)
     go_wp2_with fail
     with_reducible refine C1.out.mono ?_
     rintro r w1 ⟨rfl,hk1⟩
     have HK1:Hid (SortAt (encT tc) 3 w b o (P ++ A1 ++ B1 ++ A2 ++ B2 ++ T) w1):=hid (by simpa using hk1)
     clear hk1
     have HK2:Hid (SortAt (encT tc) 3 w b o (P ++ z0f le A1 B1 ++ A2 ++ B2 ++ T) w1):=hid (by
      have:=HK1.out
      obtain ⟨-,hzA1⟩:=HZ.out
      subst hzA1
      simpa [z0g,z07] using this)
     have C3:=hid (HIH.out (P ++ z0f le A1 B1) A2 B2 T _ w1 l d f e (by have:=HNN.out; have:=HSZ.out; omega) HNN.out.2.1 HNN.out.2.2.2 HSA.out.2.1 HSA.out.2.2.2 (by simp) (by rw [HLN.out]; simp; omega) (by have:=LS.out; have:=LA.out; have:=LP.out; simp; omega) (by have:=LS.out; have:=LA.out; omega) (by have:=LS.out; have:=LA.out; omega) HK2.out hcap hcap2)
     go_wp2_with fail
     with_reducible refine C3.out.mono ?_
     rintro r w3 ⟨rfl,hk3⟩
     have HK3:Hid (SortAt (encT tc) 3 w b o (P ++ z0f le A B ++ T) w3):=hid (by rw [HMG.out]; simpa using hk3)
     clear hk3
     go_wp2
     all_goals
      go_end0
      exact ⟨rfl,by first | (with_reducible exact HK3.out) | (rw [← List.append_assoc]; with_reducible exact HK3.out)⟩
    ·have f1:(i:Int) < (m:Int):=by have:=LA.out; have:=LS.out; omega
     have f2:(m:Int) < (f:Int):=by have:=LA.out; have:=LS.out; omega
     have f3:(i:Int) ≤ (a:Int):=by have:=LA.out; have:=LS.out; omega
     have f4:(i:Int) < (d:Int):=by have:=LA.out; have:=LS.out; omega
     have f5:(d:Int) < (f:Int):=by have:=LA.out; have:=LS.out; omega
     have f6:(e:Int) ≤ (f:Int):=by have:=LA.out; have:=LS.out; omega
     have hzA1:A1 = []:=List.length_eq_zero_iff.1 (by omega)
     have hzB2:B2 = []:=List.length_eq_zero_iff.1 (by omega)
     have HZ:=hid (And.intro (rfl:0 = 0) (And.intro hzA1 hzB2))
     clear hzA1
     clear hzB2
     have HN1:=hid (And.intro n2 n3)
     have HNN:=hid (And.intro n1 (And.intro n2 (And.intro n3 n4)))
     clear n1 n2 n3 n4
     have C1:=hid (z4n (tc:=tc) (cap:=cap) (l:=l) (za:=(i:Int)) (zm:=(m:Int)) (zb:=(f:Int)) (cv:=.func (.func 163) #[] #[]) (P ++ A1) A2 B1 (B2 ++ T) wr (by simp) (by rw [HLN.out]; simp; omega) (by have:=LS.out; have:=LP.out; simp; omega) (by have:=LS.out; have:=LP.out; have:=LA.out; simp; omega) (by have:=LS.out; have:=LP.out; have:=LA.out; simp; omega) HK0.out (by intro hn; have:=HNN.out; rw [hn] at this; simp at this) (by intro hn; have:=HNN.out; rw [hn] at this; simp at this) hcap hcap2)
     go_wp2_with fail
     with_reducible refine C1.out.mono ?_
     rintro r w1 ⟨rfl,hk1⟩
     have HK1:Hid (SortAt (encT tc) 3 w b o (P ++ A1 ++ B1 ++ A2 ++ B2 ++ T) w1):=hid (by simpa using hk1)
     clear hk1
     have HK2:Hid (SortAt (encT tc) 3 w b o (P ++ z0f le A1 B1 ++ A2 ++ B2 ++ T) w1):=hid (by
      have:=HK1.out
      obtain ⟨-,hzA1,hzB2⟩:=HZ.out
      subst hzA1 hzB2
      simpa [z0g,z07] using this)
     have HK3:Hid (SortAt (encT tc) 3 w b o (P ++ z0f le A B ++ T) w1):=hid (by
      have:=HK2.out
      rw [HMG.out]
      obtain ⟨-,hzA1,hzB2⟩:=HZ.out
      subst hzA1 hzB2
      simpa [z0g,z07] using this)
     go_wp2
     all_goals
      go_end0
      exact ⟨rfl,by first | (with_reducible exact HK3.out) | (rw [← List.append_assoc]; with_reducible exact HK3.out)⟩
    ·have f1:(m:Int) ≤ (i:Int):=by have:=LA.out; have:=LS.out; omega
     have f2:(m:Int) < (f:Int):=by have:=LA.out; have:=LS.out; omega
     have f3:(i:Int) ≤ (a:Int):=by have:=LA.out; have:=LS.out; omega
     have f4:(i:Int) < (d:Int):=by have:=LA.out; have:=LS.out; omega
     have f5:(f:Int) ≤ (d:Int):=by have:=LA.out; have:=LS.out; omega
     have f6:(f:Int) < (e:Int):=by have:=LA.out; have:=LS.out; omega
     have hzA1:A1 = []:=List.length_eq_zero_iff.1 (by omega)
     have hzA2:A2 = []:=List.length_eq_zero_iff.1 (by omega)
     have HZ:=hid (And.intro (rfl:0 = 0) (And.intro hzA1 hzA2))
     clear hzA1
     clear hzA2
     have HNN:=hid (And.intro n1 (And.intro n2 (And.intro n3 n4)))
     clear n1 n2 n3 n4
     have HK1:Hid (SortAt (encT tc) 3 w b o (P ++ A1 ++ B1 ++ A2 ++ B2 ++ T) wr):=hid (by
      have:=HK0.out
      obtain ⟨-,hzA1,hzA2⟩:=HZ.out
      subst hzA1 hzA2
      simpa using this)
     have HK2:Hid (SortAt (encT tc) 3 w b o (P ++ z0f le A1 B1 ++ A2 ++ B2 ++ T) wr):=hid (by
      have:=HK1.out
      obtain ⟨-,hzA1,hzA2⟩:=HZ.out
      subst hzA1 hzA2
      simpa [z0g,z07] using this)
     have HK3:Hid (SortAt (encT tc) 3 w b o (P ++ z0f le A B ++ T) wr):=hid (by
      have:=HK2.out
      rw [HMG.out]
      obtain ⟨-,hzA1,hzA2⟩:=HZ.out
      subst hzA1 hzA2
      simpa [z0g,z07] using this)
     go_wp2
     all_goals
      go_end0
      exact ⟨rfl,by first | (with_reducible exact HK3.out) | (rw [← List.append_assoc]; with_reducible exact HK3.out)⟩
theorem zfj (hc:CmpT 163 tc cf w b) (hcl:CmpLe cf le) {cap:Nat}:∀ (N:Nat) (P A B T cur:List α) (W:World) (l a m e:Nat),A.length + B.length < N → 0 < A.length → 0 < B.length → z0w le A → z0w le B → cur = P ++ A ++ B ++ T → l = cur.length → a = P.length → m = a + A.length → e = m + B.length → SortAt (encT tc) 3 w b o cur W → l ≤ cap → l ≤ 1000000000000 →
   Calls Tryz.prog 178 #[.slice (some ⟨b,o,none⟩) l cap,.int .i64 a,.int .i64 m,.int .i64 e,.func (.func 163) #[] #[]] W
    fun r w' => r = .returned (.tuple #[]) ∧ SortAt (encT tc) 3 w b o (P ++ z0f le A B ++ T) w':=by
 intro N
 induction N with
 | zero => intro P A B T cur W l a m e hN; omega
 | succ N ih =>
  intro P A B T cur W l a m e hN hA0 hB0 hA hB hcur hl ha hm he h hcap hcap2
  match A,hA0,hA,hcur,hm,hN with
  | [x],_,hA,hcur,hm,hN => exact zmb P B T x cur W hc hcl (by rw [hcur]; simp) hl ha (by simpa using hm) (by rw [he,hm]; simp) h hB hcap hcap2
  | x :: x' :: A,_,hA,hcur,hm,hN =>
   match B,hB0,hB,hcur,he,hN with
   | [y],_,hB,hcur,he,hN => exact ziw P (x :: x' :: A) T y cur W hc hcl (by rw [hcur]; simp) hl ha hm (by simpa using he) (by simp) h hA hcap hcap2
   | y :: y' :: B,_,hB,hcur,he,hN =>
    exact zix P (x :: x' :: A) (y :: y' :: B) T cur W hc hcl hcur hl ha hm he (by simp) (by simp) (fun P A' B' T cur W l a m e hlt => ih P A' B' T cur W l a m e (by omega)) h hA hB hcap hcap2
end
end
section
open Go.RowKit Go.Sort
section
variable {α:Type} {le:α → α → Bool}
inductive Blk (le:α → α → Bool) (s:Nat):List α → List α → Prop where
 | nil:Blk le s [] []
 | last (X:List α) (h0:0 < X.length) (h:X.length ≤ s):Blk le s (z20 le X) X
 | cons (X R O:List α) (h:X.length = s) (t:Blk le s R O):Blk le s (z20 le X ++ R) (X ++ O)
inductive Full (le:α → α → Bool) (s:Nat):List α → List α → Prop where
 | nil:Full le s [] []
 | cons (X R O:List α) (h:X.length = s) (t:Full le s R O):Full le s (z20 le X ++ R) (X ++ O)
theorem Blk.len {s:Nat} {R O:List α} (h:Blk le s R O):R.length = O.length:=by
 induction h with
 | nil => rfl
 | last X _ _ => exact z10 X
 | cons X R O h t ih => simp [z10,ih]
theorem Full.len {s:Nat} {R O:List α} (h:Full le s R O):R.length = O.length:=by
 induction h with
 | nil => rfl
 | cons X R O h t ih => simp [z10,ih]
theorem Full.snoc {s:Nat} {R O X:List α} (h:Full le s R O) (hX:X.length = s):Full le s (R ++ z20 le X) (O ++ X):=by
 induction h with
 | nil =>
  have:=Full.cons (le:=le) X [] [] hX Full.nil
  simpa using this
 | cons Y R O h t ih =>
  have:=Full.cons Y _ _ h ih
  simpa using this
theorem Full.blk {s:Nat} {R O R2 O2:List α} (h:Full le s R O) (h2:Blk le s R2 O2):Blk le s (R ++ R2) (O ++ O2):=by
 induction h with
 | nil => exact h2
 | cons Y R O h t ih =>
  have:=Blk.cons Y _ _ h ih
  simpa using this
theorem Blk.two {s:Nat} {R O:List α} (h:Blk le s R O) (hs:0 < s) (h2:s + s ≤ R.length):∃ X Y R' O',R = z20 le X ++ (z20 le Y ++ R') ∧ O = X ++ (Y ++ O') ∧ X.length = s ∧ Y.length = s ∧ Blk le s R' O':=by
 cases h with
 | nil => simp at h2; omega
 | last X h0 h => rw [z10] at h2; omega
 | cons X R O h t =>
  simp only [List.length_append,z10] at h2
  cases t with
  | nil => simp at h2; omega
  | last Y h0 h' =>
   rw [z10] at h2
   exact ⟨X,O,[],[],by simp,by simp,h,by omega,.nil⟩
  | cons Y R O h' t => exact ⟨X,Y,R,O,rfl,rfl,h,h',t⟩
theorem Blk.part {s:Nat} {R O:List α} (h:Blk le s R O) (_hs:0 < s) (h1:s < R.length) (h2:R.length < s + s):∃ X Y,R = z20 le X ++ z20 le Y ∧ O = X ++ Y ∧ X.length = s ∧ 0 < Y.length:=by
 cases h with
 | nil => simp at h1
 | last X h0 h => rw [z10] at h1; omega
 | cons X R O h t =>
  simp only [List.length_append,z10] at h1 h2
  cases t with
  | nil => simp at h1; omega
  | last Y h0 h' => exact ⟨X,O,rfl,rfl,h,h0⟩
  | cons Y R O h' t => simp [z10] at h2; omega
theorem Blk.one {s:Nat} {R O:List α} (h:Blk le s R O) (h1:R.length ≤ s):R = z20 le O:=by
 cases h with
 | nil => rfl
 | last X h0 h => rfl
 | cons X R O h t =>
  simp only [List.length_append,z10] at h1
  obtain rfl:R = []:=List.length_eq_zero_iff.1 (by omega)
  have:=t.len
  obtain rfl:O = []:=List.length_eq_zero_iff.1 (by simpa using this.symm)
  simp
theorem Blk.of_sort {s:Nat} {O:List α} (h:O.length ≤ s):Blk le s (z20 le O) O:=by
 rcases Nat.eq_zero_or_pos O.length with h0 | h0
 ·obtain rfl:=List.length_eq_zero_iff.1 h0
  exact .nil
 ·exact .last O h0 h
end
section
variable {α:Type} [Inhabited α] {tc:α → TCell} {w:World} {b o:Nat} {cf:α → α → Int} {le:α → α → Bool}
theorem z8m {cap l:Nat} {za zb:Int} {cur:List α} (P X T:List α) (W:World) (hc:CmpT 163 tc cf w b) (hcl:CmpLe cf le) (hcur:cur = P ++ X ++ T) (hl:l = cur.length) (hza:za = P.length) (hzb:zb = P.length + X.length) (h:SortAt (encT tc) 3 w b o cur W) (hcap:l ≤ cap) (hcap2:l ≤ 1000000000000) :
  Calls Tryz.prog 177 #[.slice (some ⟨b,o,none⟩) l cap,.int .i64 za,.int .i64 zb,.func (.func 163) #[] #[]] W
   fun e w' => e = .returned (.tuple #[]) ∧ SortAt (encT tc) 3 w b o (P ++ z20 le X ++ T) w':=by
 subst hcur hl hza
 obtain rfl:zb = ((P.length + X.length:Nat):Int):=by rw [hzb]; omega
 exact zfi cap P X T W hc hcl h hcap hcap2
theorem z8n (hc:CmpT 163 tc cf w b) (hcl:CmpLe cf le) {cap l:Nat} (hcap2:l ≤ 1000000000000) {za zm ze:Int} {cur:List α} (P A B T:List α) (W:World) (hA0:0 < A.length) (hB0:0 < B.length) (hA:z0w le A) (hB:z0w le B) (hcur:cur = P ++ A ++ B ++ T) (hl:l = cur.length) (hza:za = P.length) (hzm:zm = P.length + A.length) (hze:ze = P.length + A.length + B.length)
  (h:SortAt (encT tc) 3 w b o cur W) (hcap:l ≤ cap) :
   Calls Tryz.prog 178 #[.slice (some ⟨b,o,none⟩) l cap,.int .i64 za,.int .i64 zm,.int .i64 ze,.func (.func 163) #[] #[]] W
    fun r w' => r = .returned (.tuple #[]) ∧ SortAt (encT tc) 3 w b o (P ++ z0f le A B ++ T) w':=by
 subst hza
 obtain rfl:zm = ((P.length + A.length:Nat):Int):=by rw [hzm]; omega
 obtain rfl:ze = ((P.length + A.length + B.length:Nat):Int):=by rw [hze]; omega
 exact zfj hc hcl _ P A B T cur W l _ _ _ (Nat.lt_succ_self _) hA0 hB0 hA hB hcur hl rfl rfl rfl h hcap hcap2
theorem zp9 {cap n:Nat} (L:List α) (W:World) (hc:CmpT 163 tc cf w b) (hcl:CmpLe cf le) (hl:n = L.length) (h:SortAt (encT tc) 3 w b o L W) (hcap:n ≤ cap) (hcap2:n ≤ 1000000000000) :
  Calls Tryz.prog 172 #[.slice (some ⟨b,o,none⟩) n cap,.int .i64 n,.func (.func 163) #[] #[]] W
   fun e w' => e = .returned (.tuple #[]) ∧ SortAt (encT tc) 3 w b o (z20 le L) w':=by
 have H:=hid h
 have HC:=hid hc
 have HL:=hid hcl
 have HN:=hid hl
 clear h hc hcl hl
 go_enter Tryz.func172,Tryz.ntmps172
 go_wp2
 go_loopw [7,8] (fun va vb wr => ∃ (a c:Nat) (S O R:List α),va = .int .i64 a ∧ vb = .int .i64 c ∧ a ≤ n ∧ Hid (c = a + 20) ∧ c ≤ n + 20 ∧ Hid (a = O.length) ∧ Hid (L = O ++ R) ∧ Hid (Full le 20 S O) ∧ SortAt (encT tc) 3 w b o (S ++ R) wr) (fun va vb _ => n - (intOf va).toNat)
 case atStart => exact ⟨0,20,[],[],L,rfl,rfl,by omega,rfl,by omega,rfl,rfl,.nil,H.out⟩
 case round =>
  obtain ⟨a,c,S,O,R,rfl,rfl,han,HCA,hcn,HA,HLL,HF,hs⟩:=hrel
  have HS:=hid hs
  clear hs
  have hn:n = O.length + R.length:=by have:=HN.out; rw [HLL.out] at this; simpa using this
  have hcl:n = (S ++ R).length:=by rw [hn]; simp [HF.out.len]
  have HCL:=hid hcl
  have HNN:=hid hn
  clear hn hcl
  by_cases hlt:c ≤ n
  ·obtain ⟨X,R',hX,hX20⟩:∃ X R',R = X ++ R' ∧ X.length = 20:=⟨R.take 20,R.drop 20,(List.take_append_drop _ _).symm,by have:=HNN.out; have:=HA.out; have:=HCA.out; rw [List.length_take]; omega⟩
   subst hX
   have HX:=hid hX20
   have C:=hid (z8m (cap:=cap) (l:=n) (za:=(a:Int)) (zb:=(c:Int)) S X R' wr HC.out HL.out (by simp) HCL.out (by rw [HF.out.len]; have:=HA.out; omega) (by rw [HF.out.len]; have:=HA.out; have:=HCA.out; omega) HS.out hcap hcap2)
   clear hX20
   go_wp2_with fail
   with_reducible refine C.out.mono ?_
   rintro e w2 ⟨rfl,hs2⟩
   have HS2:=hid hs2
   clear hs2
   go_wp2
   go_roundw
   case rel =>
    refine ⟨c,c + 20,S ++ z20 le X,O ++ X,R',rfl,by go_num,hlt,rfl,by omega,?_,?_,?_,?_⟩
    ·show _ = _; have:=HA.out; have:=HX.out; have:=HCA.out; simp; omega
    ·show _ = _; rw [HLL.out]; simp
    ·exact HF.out.snoc HX.out
    ·exact HS2.out
   case measure => have:=HCA.out; simp only [intOf]; omega
  ·have C:=hid (z8m (cap:=cap) (l:=n) (za:=(a:Int)) (zb:=(n:Int)) S R [] wr HC.out HL.out (by simp) HCL.out (by rw [HF.out.len]; have:=HA.out; omega) (by rw [HF.out.len]; have:=HNN.out; omega) HS.out hcap hcap2)
   go_wp2_with fail
   with_reducible refine C.out.mono ?_
   rintro e w2 ⟨rfl,hs2⟩
   have HS2:=hid hs2
   have HB:Hid (Blk le 20 (S ++ z20 le R) L):=hid (by
    rw [HLL.out]
    exact HF.out.blk (.of_sort (by have:=HNN.out; have:=HA.out; have:=HCA.out; omega)))
   clear hs2
   go_wp2
   go_loopw [6,7,8,9] (fun vs va vb vm wr => ∃ (s:Nat) (za zb:Int) (cur:List α),vs = .int .i64 s ∧ va = .int .i64 za ∧ vb = .int .i64 zb ∧ 20 ≤ s ∧ s ≤ n + n + 20 ∧ Hid (Blk le s cur L) ∧ SortAt (encT tc) 3 w b o cur wr) (fun vs _ _ _ _ => n - (intOf vs).toNat)
   case atStart => exact ⟨20,a,c,_,rfl,rfl,rfl,by omega,by omega,HB,by have:=HS2.out; simpa using this⟩
   case round =>
    clear HB HS2 HS HF HLL HCL HNN HCA HA hlt hcn han
    obtain ⟨s,za,zb,cur,rfl,rfl,rfl,hs20,hsn,HB,hs⟩:=hrel
    have HS:=hid hs
    clear hs
    by_cases hlt:s < n
    ·have HCN:Hid (n = cur.length):=hid (by rw [HN.out,HB.out.len])
     go_wp2
     go_loopw [7,8] (fun va vb wr => ∃ (a c:Nat) (S O R O2:List α),va = .int .i64 a ∧ vb = .int .i64 c ∧ a ≤ n ∧ Hid (c = a + (s + s)) ∧ c ≤ n + s + s ∧ Hid (a = O.length) ∧ Hid (L = O ++ O2) ∧ Hid (Full le (s + s) S O) ∧ Hid (Blk le s R O2) ∧ SortAt (encT tc) 3 w b o (S ++ R) wr) (fun va vb _ => n - (intOf va).toNat)
     case atStart => exact ⟨0,s + s,[],[],cur,L,rfl,by congr 1; omega,by omega,by show _ = _; omega,by omega,rfl,rfl,.nil,HB,HS.out⟩
     case round =>
      clear HCN HS HB
      obtain ⟨a,c,S,O,R,O2,rfl,rfl,han,HCA,hcn,HA,HLL,HF,HB,hs⟩:=hrel
      have HS:=hid hs
      clear hs
      have hn:n = O.length + O2.length:=by have:=HN.out; rw [HLL.out] at this; simpa using this
      have hcl:n = (S ++ R).length:=by rw [hn]; simp [HF.out.len,HB.out.len]
      have HCL:=hid hcl
      have HNN:=hid hn
      clear hn hcl
      by_cases hlt:c ≤ n
      ·obtain ⟨X,Y,R',O',hR,hO,hX,hY,hB⟩:=HB.out.two (by omega) (by rw [HB.out.len]; have:=HNN.out; have:=HA.out; have:=HCA.out; omega)
       have HX:=hid (And.intro hX hY)
       have HO:=hid hO
       have HB2:=hid hB
       have C:=hid (z8n HC.out HL.out (cap:=cap) (l:=n) hcap2 (za:=(a:Int)) (zm:=(a:Int) + (s:Int)) (ze:=(c:Int)) (cur:=S ++ R) S (z20 le X) (z20 le Y) R' wr (by rw [z10]; omega) (by rw [z10]; omega) (z2z HL.out.total X) (z2z HL.out.total Y) (by rw [hR]; simp) HCL.out (by rw [HF.out.len]; have:=HA.out; omega) (by rw [HF.out.len,z10]; have:=HA.out; omega) (by rw [HF.out.len,z10,z10]; have:=HA.out; have:=HCA.out; omega) HS.out hcap)
       clear hR hO hX hY hB
       go_wp2_with fail
       with_reducible refine C.out.mono ?_
       rintro e w2 ⟨rfl,hs2⟩
       have HS2:=hid hs2
       clear hs2
       go_wp2
       go_roundw
       case rel =>
        refine ⟨c,c + (s + s),S ++ z20 le (X ++ Y),O ++ (X ++ Y),R',O',rfl,by congr 1; omega,hlt,rfl,by omega,?_,?_,?_,HB2,?_⟩
        ·show _ = _; have:=HA.out; have:=HX.out; have:=HCA.out; simp; omega
        ·show _ = _; rw [HLL.out,HO.out]; simp
        ·exact HF.out.snoc (by have:=HX.out; simp; omega)
        ·rw [z4m HL.out.total]
         exact HS2.out
       case measure => have:=HCA.out; simp only [intOf]; omega
      ·by_cases hm:a + s < n
       ·obtain ⟨X,Y,hR,hO,hX,hY⟩:=HB.out.part (by omega) (by rw [HB.out.len]; have:=HNN.out; have:=HA.out; omega) (by rw [HB.out.len]; have:=HNN.out; have:=HA.out; have:=HCA.out; omega)
        have C:=hid (z8n HC.out HL.out (cap:=cap) (l:=n) hcap2 (za:=(a:Int)) (zm:=(a:Int) + (s:Int)) (ze:=(n:Int)) (cur:=S ++ R) S (z20 le X) (z20 le Y) [] wr (by rw [z10]; omega) (by rw [z10]; omega) (z2z HL.out.total X) (z2z HL.out.total Y) (by rw [hR]; simp) HCL.out (by rw [HF.out.len]; have:=HA.out; omega) (by rw [HF.out.len,z10]; have:=HA.out; omega) (by rw [HF.out.len,z10,z10]; have h1:=HNN.out; rw [hO] at h1; simp at h1; omega) HS.out hcap)
        have HBB:Hid (Blk le (s + s) (S ++ z0f le (z20 le X) (z20 le Y)) L):=hid (by
         rw [HLL.out,hO,← z4m HL.out.total]
         refine HF.out.blk (.of_sort ?_)
         have h1:=HNN.out
         have h2:=HA.out
         have h3:=HCA.out
         rw [hO] at h1
         omega)
        clear hR hO hX hY
        have q1:(a:Int) + (s:Int) < (n:Int):=by omega
        go_wp2_with fail
        with_reducible refine C.out.mono ?_
        rintro e w2 ⟨rfl,hs2⟩
        have HS2:=hid hs2
        clear hs2
        go_wp2
        go_roundw
        case rel => exact ⟨s + s,_,_,_,by congr 1; omega,rfl,rfl,by omega,by omega,HBB,by have:=HS2.out; simpa using this⟩
        case measure => simp only [intOf]; omega
       ·have HBB:Hid (Blk le (s + s) (S ++ R) L):=hid (by
         rw [HB.out.one (by rw [HB.out.len]; have:=HNN.out; have:=HA.out; omega),HLL.out]
         refine HF.out.blk (.of_sort ?_)
         have h1:=HNN.out
         have h2:=HA.out
         omega)
        have q1:(n:Int) ≤ (a:Int) + (s:Int):=by omega
        go_wp2
        go_roundw
        case rel => exact ⟨s + s,_,_,_,by congr 1; omega,rfl,rfl,by omega,by omega,HBB,HS.out⟩
        case measure => simp only [intOf]; omega
    ·have HF:Hid (SortAt (encT tc) 3 w b o (z20 le L) wr):=hid (by
      have:=HB.out.one (by rw [HB.out.len,← HN.out]; omega)
      rw [← this]
      exact HS.out)
     go_wp2
     go_end0
     exact ⟨rfl,HF.out⟩
theorem ztm {cap n:Nat} (L:List α) (W:World) (hc:CmpT 163 tc cf w b) (hcl:CmpLe cf le) (hl:n = L.length) (h:SortAt (encT tc) 3 w b o L W) (hcap:n ≤ cap) (hcap2:n ≤ 1000000000000) :
  Calls Tryz.prog 162 #[.slice (some ⟨b,o,none⟩) n cap,.func (.func 163) #[] #[]] W
   fun e w' => e = .returned (.tuple #[]) ∧ SortAt (encT tc) 3 w b o (z20 le L) w':=by
 have C:=hid (zp9 L W hc hcl hl h hcap hcap2)
 clear hc hcl hl h
 go_enter Tryz.func162,Tryz.ntmps162
 go_wp2_with fail
 with_reducible refine C.out.mono ?_
 rintro e w2 ⟨rfl,hs2⟩
 have HS2:=hid hs2
 clear hs2
 go_wp2
 go_end0
 exact ⟨rfl,HS2.out⟩
end
end
section
open Go.RowKit Go.Sort
theorem z0h.src {S:Nat → Prop} {w:World} {A:Option Addr} {n cap:Nat} {ts:List RTerm} (h:z0h S w (.slice A n cap) ts):n = ts.length ∧ ∃ xs,z0r S w xs ts ∧ zbb w A n 3 xs:=by
 obtain ⟨b,off,⟨a',cap',h1,h2,h3,h4,h5⟩,hc⟩:=h
 obtain ⟨rfl,rfl,rfl⟩:A = a' ∧ n = ts.length ∧ cap = cap':=by simpa using h1
 refine ⟨rfl,?_⟩
 clear h1 h2 h3 h5
 have main:∀ (us:List RTerm) (k:Nat),(∀ j t,us[j]? = some t → ∃ vm vo,w.cell? ⟨b,off + (k + j) * 3,none⟩ = some (.bool t.c.neg) ∧ w.cell? ⟨b,off + (k + j) * 3 + 1,none⟩ = some vm ∧ w.cell? ⟨b,off + (k + j) * 3 + 2,none⟩ = some vo ∧ U32s S w vm t.c.mag ∧ Pows S w vo t.m) →
   ∃ xs,z0r S w xs us ∧ ∀ j u,xs[j]? = some u → w.cell? ⟨b,off + k * 3 + j,none⟩ = some u:=by
  intro us
  induction us with
  | nil => intro k _; exact ⟨[],rfl,fun j u hu => by simp at hu⟩
  | cons t r ih =>
   intro k hk
   obtain ⟨vm,vo,g1,g2,g3,g4,g5⟩:=hk 0 t rfl
   obtain ⟨xs,hx1,hx2⟩:=ih (k + 1) (fun j u hu => by
    have:=hk (j + 1) u (by simpa using hu)
    rw [show k + (j + 1) = k + 1 + j by omega] at this
    exact this)
   refine ⟨.bool t.c.neg :: vm :: vo :: xs,⟨vm,vo,xs,rfl,g4,g5,hx1⟩,fun j u hu => ?_⟩
   rw [Nat.add_zero] at g1 g2 g3
   match j,hu with
   | 0, hu => obtain rfl : _ = u := by simpa using hu
              exact g1
   | 1, hu => obtain rfl : _ = u := by simpa using hu
              exact g2
   | 2, hu => obtain rfl : _ = u := by simpa using hu
              exact g3
   | j + 3,hu =>
    have:=hx2 j u (by simpa using hu)
    rw [show off + k * 3 + (j + 3) = off + (k + 1) * 3 + j by omega]
    exact this
 obtain ⟨xs,hx1,hx2⟩:=main ts 0 (fun j t hj => by rw [Nat.zero_add]; exact hc j t hj)
 refine ⟨xs,hx1,by rw [hx1.length],hx1.one,fun h0 => ⟨_,h4 h0,fun j u hu => ?_⟩⟩
 rw [z6u]
 have:=hx2 j u hu
 simpa using this
theorem z0h.of_none {S:Nat → Prop} {w:World} {n cap:Nat} {m:List RTerm} (h:z0h S w (.slice Option.none n cap) m):m = []:=by
 obtain ⟨b,off,⟨a',cap',h1,h2,h3,h4,h5⟩,hc⟩:=h
 obtain ⟨rfl,rfl,rfl⟩:Option.none = a' ∧ n = m.length ∧ cap = cap':=by simpa using h1
 rcases Nat.eq_zero_or_pos m.length with h0 | h0
 ·exact List.length_eq_zero_iff.1 h0
 ·cases h4 h0
theorem z0h.onS {S:Nat → Prop} {w W:World} {v:Value} {z:List RTerm} (h:z0h S w v z) (hx:Ext w W) (hS:∀ k,S k → k < w.heap.size):z0h S W v z:=h.ext hx hS
theorem zfk {S:Nat → Prop} (v:Value) (ts:List RTerm) (w:World) (h:z0h S w v ts) (hS:∀ k,S k → k < w.heap.size) (hr:ts.length ≤ 1000000000000) :
  Calls Tryz.prog 161 #[v] w fun e w' => ∃ v' xs,e = .returned v' ∧ w'.ownsRow w.heap.size 49 3 v' ts.length xs ∧ z0r S w' xs ts ∧ Ext w w':=by
 obtain ⟨i0,hi,hz0,hz1,hz2⟩:=info_parts Tryz.infoTerm
 have H:=hid h
 obtain ⟨A,c,rfl⟩:=h.form
 clear h
 have hnil:=fun (w:World) => Lib.run_eql_slice_nil (P:=Tryz.prog) w 22 49 A ts.length c 0 0 Tryz.underlying22
 cases A with
 | none =>
  have HM:=hid H.out.of_none
  go_enter Tryz.func161,Tryz.ntmps161
  go_wp2
  all_goals
   go_ret
   have e:=HM.out
   subst e
   exact ⟨_,[],rfl,World.ownsRow_nil _ _ _ _,rfl,Ext.refl _⟩
 | some ad =>
  have hx0:Ext w (w.alloc (.cells #[] 49)):=Ext.alloc (Ext.refl w) _
  obtain ⟨-,xs,hc,hs⟩:=(H.out.ext hx0 hS).src
  have HS:=hid hs
  have HCC:=hid hc
  have HO:=hid (World.ownsRow_made (base:=w.heap.size) (e:=49) (size:=3) w #[] 0 (Nat.le_refl _) (by unfold maxLen; omega) (by simp))
  have HR:=hid hr
  clear hx0 hc hs
  go_enter Tryz.func161,Tryz.ntmps161
  go_wp2_with (at_builtin; refine z0m _ rfl (.tmp 5) (.tmp 6) 22 rfl w.heap.size 49 i0 (.agg #[.bool false,.slice none 0 0,.slice none 0 0]) 3 56 Tryz.underlying22 hi hz0 hz1 hz2 rfl (by decide) (.slice (some ⟨w.heap.size,0,none⟩) 0 0) 0 [] rfl HO.out (some ad) ts.length c xs rfl HS.out (by have:=HR.out; unfold maxLen; omega) (by have:=HR.out; omega) (by simp) ?_; intro v1 w1 hown hg _; have HW:=hid hown; have HG:=hid hg; clear hown hg)
  go_ret
  have hx:Ext w w1:=by
   refine z0j (Ext.alloc (Ext.refl w) _) HG.out (fun k hk => ?_)
   have e:w.heap.size = k:=by simpa [Value.ownBlock] using hk
   omega
  refine ⟨v1,xs,rfl,by simpa using HW.out,?_,hx⟩
  exact HCC.out.to (Kept.grown HG.out (fun k hk => ⟨by have:=hS k hk; simp; omega,fun e => by have:=hS k hk; simp [Value.ownBlock] at e; omega⟩)) (fun _ h => h)
structure TermIn (S:Nat → Prop) (w:World) where
 t:RTerm
 c:TCell
 neg:c.neg = t.c.neg
 hm:U32s S w (.slice c.ma c.mn c.mc) t.c.mag
 ho:Pows S w (.slice c.oa c.on c.oc) t.m
 may:mayM t.m = true
instance (S:Nat → Prop) (w:World):Inhabited (TermIn S w):=⟨⟨⟨⟨false,[]⟩,[]⟩,⟨false,none,0,0,none,0,0⟩,rfl,U32s.nilv _ _ _ _ (by decide),Pows.empty _ _ _,rfl⟩⟩
section
variable {S:Nat → Prop} {w:World}
theorem zfl {xs:List Value} {ts:List RTerm} (h:z0r S w xs ts) (hm:∀ t ∈ ts,mayM t.m = true):∃ d:List (TermIn S w),d.map (·.t) = ts ∧ xs = (d.map (encT (fun x:TermIn S w => x.c))).flatten:=by
 induction ts generalizing xs with
 | nil =>
  have e:xs = []:=h
  subst e
  exact ⟨[],rfl,rfl⟩
 | cons t r ih =>
  obtain ⟨vd,vo,ys,rfl,h1,h2,h3⟩:=h
  obtain ⟨d,hd1,hd2⟩:=ih h3 (fun u hu => hm u (by simp [hu]))
  obtain ⟨a1,c1,rfl⟩:=h1.form
  obtain ⟨a2,c2,rfl⟩:=h2.form
  exact ⟨⟨t,⟨t.c.neg,a1,_,c1,a2,_,c2⟩,rfl,h1,h2,hm t (by simp)⟩ :: d,by simp [hd1],by simp [hd2]⟩
theorem zs5 {α:Type} {enc:α → List Value} {d:List α} (hk:∀ x,(enc x).length = 3) {j c:Nat} {x:α} (hj:d[j]? = some x) (hc:c < 3):(d.map enc).flatten[j * 3 + c]? = (enc x)[c]?:=by
 induction d generalizing j with
 | nil => simp at hj
 | cons y r ih =>
  simp only [List.map_cons,List.flatten_cons]
  cases j with
  | zero =>
   obtain rfl:y = x:=by simpa using hj
   rw [List.getElem?_append_left (by rw [hk]; omega)]
   congr 1
   omega
  | succ j =>
   rw [List.getElem?_append_right (by rw [hk]; omega),hk]
   rw [show (j + 1) * 3 + c - 3 = j * 3 + c by omega]
   exact ih (by simpa using hj)
theorem ziy {base g n cap:Nat} {e:TypeId} {xs:List Value} {d:List (TermIn S w)} (h:w.ownsRow base e 3 (.slice (some ⟨g,0,none⟩) n cap) n xs) (hx:xs = (d.map (encT (fun x:TermIn S w => x.c))).flatten) (hn:n = d.length):SortAt (encT (fun x:TermIn S w => x.c)) 3 w g 0 d w ∧ n ≤ cap ∧ cap ≤ maxLen:=by
 obtain ⟨hl,hh⟩:=h
 rcases hh with ⟨h1,_⟩ | ⟨g',cap',cur,h1,h2,h3,h4,h5,h6,h7⟩
 ·simp at h1
 ·obtain ⟨rfl,rfl⟩:g = g' ∧ cap = cap':=by simpa using h1
  refine ⟨⟨ziv _ _,?_,(Array.getElem?_eq_some_iff.1 h3).1⟩,h4,h5⟩
  have cell:∀ k,k < n * 3 → w.cell? ⟨g,k,none⟩ = xs[k]? ∧ w.frozen? ⟨g,k,none⟩ = false:=fun k hk => by
   unfold World.cell? World.frozen?
   simp only [h3]
   rw [← h7,List.getElem?_take,if_pos hk]
   simp
  intro j hj
  rw [size_flatK] at hj
  have hj3:j < d.length * 3:=by simpa using hj
  obtain ⟨x,hxd⟩:=z00 (show j / 3 < d.length by omega)
  have hc:=cell j (by rw [hn]; exact hj3)
  rw [Nat.zero_add]
  refine ⟨?_,hc.2⟩
  rw [hc.1,hx,get_flatK _ _ _ _ hj,z8l hxd]
  have:=zs5 (enc:=encT (fun x:TermIn S w => x.c)) (fun _ => rfl) hxd (c:=j % 3) (Nat.mod_lt _ (by decide))
  rw [show j / 3 * 3 + j % 3 = j by omega] at this
  rw [this]
  have h3:=Nat.mod_lt j (show 0 < 3 by decide)
  simp only [id]
  rcases (show j % 3 = 0 ∨ j % 3 = 1 ∨ j % 3 = 2 by omega) with e | e | e <;> simp [e]
end
def zpa {S:Nat → Prop} {w:World} (x y:TermIn S w):Int:=z3e y.t.m x.t.m
def zbv {S:Nat → Prop} {w:World} (x y:TermIn S w):Bool:=decide (0 ≤ z3e x.t.m y.t.m)
theorem z3i {a b:Mono} (ha:mayM a = true) (hb:mayM b = true):z3e a b = z0i a b:=by unfold z3e; simp [ha,hb]
theorem zmc {S:Nat → Prop} {w:World}:CmpLe (zpa (S:=S) (w:=w)) zbv:=by
 refine ⟨fun x y => z5p _ _,fun x y => rfl,⟨fun a b c h1 h2 => ?_,fun a b => ?_⟩⟩
 ·unfold zbv at *
  rw [z3i a.may b.may] at h1
  rw [z3i b.may c.may] at h2
  rw [z3i a.may c.may]
  simp only [decide_eq_true_eq] at *
  rcases z12 a.may b.may with g | g | g
  ·omega
  ·rw [(z1o a.may b.may).1 g]; exact h2
  ·rcases z12 b.may c.may with k | k | k
   ·omega
   ·rw [← (z1o b.may c.may).1 k]; exact h1
   ·have:=z3m a.may b.may c.may g k
    omega
 ·unfold zbv
  rw [z3i a.may b.may,z3i b.may a.may]
  simp only [decide_eq_true_eq]
  have:=z5k a.may b.may
  omega
theorem zbw {S:Nat → Prop} {w:World} {g:Nat} (hS:∀ k,S k → k < w.heap.size ∧ k ≠ g):CmpT 163 (fun x:TermIn S w => x.c) zpa w g:=by
 intro W hW x y
 simp only []
 have hk:Kept S w W:=Kept.grown hW (fun k hk => ⟨(hS k hk).1,fun e => (hS k hk).2 (Option.some.inj e)⟩)
 have hSW:∀ k,S k → k < W.heap.size:=fun k hk => Nat.lt_of_lt_of_le (hS k hk).1 hW.size
 have hx:=x.ho.to hk (fun _ h => h)
 have hy:=y.ho.to hk (fun _ h => h)
 have HC:=fun (W':World) (hE:Ext W W') => z66 _ _ y.t.m x.t.m W' (hy.ext hE hSW) (hx.ext hE hSW) (z0a hSW hE)
 have HCC:=hid HC
 unfold zpa
 generalize z3e y.t.m x.t.m = c at *
 generalize x.c = cx at *
 generalize y.c = cy at *
 have HK:=hid (Ext.alloc (Ext.alloc (Ext.refl W) (.cells #[.bool cx.neg,.slice cx.ma cx.mn cx.mc,.slice cx.oa cx.on cx.oc] 49)) (.cells #[.bool cy.neg,.slice cy.ma cy.mn cy.mc,.slice cy.oa cy.on cy.oc] 49))
 clear HC hx hy hk hSW
 go_enter Tryz.func163,Tryz.ntmps163
 go_wp2_with fail
 with_reducible refine (HCC.out _ HK.out).mono ?_
 rintro e w1 ⟨rfl,hx1⟩
 have HX1:=hid (HK.out.trans hx1)
 clear hx1
 go_wp2
 all_goals
  go_ret
  exact ⟨rfl,HX1.out⟩
theorem zmd {S:Nat → Prop} {w:World} {d:List (TermIn S w)} (h:z0w zbv d):(d.map (·.t)).Pairwise fun a b => 0 ≤ z0i a.m b.m:=by
 rw [List.pairwise_map]
 refine List.Pairwise.imp (fun {a b} hab => ?_) h
 unfold zbv at hab
 rw [z3i a.may b.may] at hab
 simpa using hab
theorem zfm (A:Option Addr) (c:Nat) (W:World):Calls Tryz.prog 162 #[.slice A 0 c,.func (.func 163) #[] #[]] W fun e w' => e = .returned (.tuple #[]) ∧ W = w':=by
 have hi:∀ W,Calls Tryz.prog 177 #[.slice A 0 c,.int .i64 0,.int .i64 0,.func (.func 163) #[] #[]] W fun e w' => e = .returned (.tuple #[]) ∧ W = w':=by
  intro W
  go_enter Tryz.func177,Tryz.ntmps177
  go_wp2
  refine wp_loop_rounds 1 ?_
  rw [rounds_succ]
  go_wp2
  go_end0
  exact ⟨rfl,rfl⟩
 have HI:=hid hi
 have hs:Calls Tryz.prog 172 #[.slice A 0 c,.int .i64 0,.func (.func 163) #[] #[]] W fun e w' => e = .returned (.tuple #[]) ∧ W = w':=by
  clear hi
  go_enter Tryz.func172,Tryz.ntmps172
  go_wp2
  refine wp_loop_rounds 1 ?_
  rw [rounds_succ]
  go_wp2_with fail
  with_reducible refine (HI.out _).mono ?_
  rintro e w1 ⟨rfl,rfl⟩
  go_wp2
  refine wp_loop_rounds 1 ?_
  rw [rounds_succ]
  go_wp2
  go_end0
  exact ⟨rfl,rfl⟩
 have HS:=hid hs
 clear hi hs
 go_enter Tryz.func162,Tryz.ntmps162
 go_wp2_with fail
 with_reducible refine HS.out.mono ?_
 rintro e w1 ⟨rfl,rfl⟩
 go_wp2
 go_end0
 exact ⟨rfl,rfl⟩
end
end Go.Proofs.YtbfflodidkfphaaGreat
