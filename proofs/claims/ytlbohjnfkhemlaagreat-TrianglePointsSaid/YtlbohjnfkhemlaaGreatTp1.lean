/- What slices of limbs, powers, terms and polynomials hold in memory, an. -/
import Derived.Test.YtlbohjnfkhemlaaGreatProg
import Derived.WalkKit
import Derived.Laws.NewBlocks
import Derived.BigQuiet
import Derived.Shelf.Abstract
import Derived.Deep.RegionHeld3
import Derived.Deep.QuietTactic
import Derived.Deep.OwnRows
import Derived.Laws.CopyOwn
import Derived.Deep.DrawnRows
set_option maxRecDepth 100000
set_option maxHeartbeats 16000000
namespace Go.Proofs.YtlbohjnfkhemlaaGreat
def Hd(p:Prop):Prop:=p
theorem Hd.o{p:Prop}(h:Hd p):p:=h
theorem Hd.out{p:Prop}(h:Hd p):p:=h
abbrev zU:=@Nat.lt_of_lt_of_le
abbrev zT:=@Nat.le_trans
abbrev zS:=@And.intro
abbrev zR:=@Nat.le_refl
abbrev zQ:=@List.mem_singleton
abbrev zP:=@List.mem_of_getElem?
abbrev zO:=@List.length_eq_zero_iff
abbrev zN:=@List.take_of_length_le
abbrev zM:=@List.length_cons
abbrev zL:=@Nat.zero_le
abbrev zK:=@Bool.and_eq_true
abbrev zJ:=@List.mem_cons
abbrev zI:=@List.length_append
abbrev zH:=@List.getD_eq_getElem?_getD
abbrev zG:=@List.mem_map
abbrev zF:=@Nat.mul_le_mul_right
abbrev zE:=@List.length_map
abbrev zD:=@List.length_take
abbrev zC:=@List.mem_append
abbrev zB:=@List.append_assoc
abbrev zA:=@Nat.pow_le_pow_right
abbrev zz:=@List.mem_cons_self
abbrev zy:=@Nat.mul_add
abbrev zx:=@Decidable.not_not
abbrev zw:=@Nat.le_succ
abbrev zv:=@List.take_add_one
abbrev zu:=@Nat.mul_assoc
abbrev zt:=@List.drop_eq_nil_of_le
abbrev zr:=@Nat.zero_add
abbrev zq:=@Nat.mul_comm
abbrev zp:=@Nat.add_zero
abbrev zo:=@List.length_nil
abbrev zk:=@Nat.lt_succ_self
abbrev zj:=@Nat.eq_zero_or_pos
abbrev zi:=@List.getElem?_eq_getElem
abbrev zh:=@Nat.lt_of_le_of_lt
abbrev zc:=@List.cons_append
abbrev y_:=@List.take_append_drop
abbrev y9:=@Nat.le_mul_of_pos_right
abbrev y8:=@Nat.add_mul
abbrev y7:=@Int.natAbs_natCast
abbrev yZ:=@List.getElem?_map
abbrev yY:=@Nat.pow_succ
abbrev yX:=@List.mem_cons_of_mem
abbrev yW:=@List.take_length
abbrev yV:=@Nat.mul_le_mul_left
abbrev yU:=@List.mem_of_mem_take
abbrev yT:=@Rat.mul_assoc
abbrev yS:=@Nat.mod_lt
abbrev yR:=@Nat.mul_le_mul
abbrev yQ:=@Nat.lt_irrefl
abbrev yP:=@List.pairwise_singleton
abbrev yO:=@List.getElem?_cons_succ
abbrev yN:=@List.pairwise_cons
abbrev yM:=@Nat.one_mul
abbrev yL:=@List.nil_append
abbrev yK:=@Nat.pow_pos
abbrev yJ:=@Array.getD_eq_getD_getElem?
abbrev yI:=@List.getElem?_append_right
abbrev yH:=@Nat.pow_add
abbrev yG:=@List.length_drop
abbrev yF:=@List.length_pos_iff
abbrev yE:=@Nat.zero_mul
abbrev yD:=@Nat.lt_trans
abbrev yC:=@Nat.succ_pos
abbrev yB:=@Nat.mod_eq_of_lt
abbrev yA:=@Option.getD_some
abbrev yz:=@Int.natCast_mul
abbrev yy:=@List.length_set
abbrev yx:=@List.getElem?_drop
abbrev yw:=@Nat.mul_zero
abbrev yv:=@List.getElem?_toArray
abbrev yu:=@List.getElem?_cons_zero
abbrev yt:=@Nat.div_le_self
abbrev yr:=@List.drop_eq_getElem_cons
abbrev yq:=@List.mem_or_eq_of_mem_set
abbrev yp:=@List.getElem?_of_mem
abbrev yk:=@Nat.le_mul_of_pos_left
abbrev yj:=@List.append_nil
abbrev yi:=@Int.le_refl
abbrev yh:=@List.filterMap_cons
abbrev yg:=@Array.getElem?_eq_some_iff
abbrev ye:=@List.pairwise_append
abbrev yd:=@List.getElem?_eq_some_iff
abbrev yc:=@List.getElem?_append_left
abbrev yb:=@Nat.div_eq_of_lt
abbrev ya:=@List.map_cons
abbrev x_:=@Int.natCast_ne_zero
abbrev xZ:=@Nat.sub_self
abbrev xY:=@Nat.add_comm
abbrev xX:=@List.any_eq_true
abbrev xW:=@List.exists_cons_of_ne_nil
abbrev xV:=@List.getElem?_set
abbrev xU:=@Int.toNat_natCast
abbrev xT:=@List.flatMap_cons
abbrev xS:=@Int.natAbs_mul
abbrev xR:=@Nat.min_eq_left
abbrev xQ:=@List.length_replicate
abbrev xP:=@Bool.false_eq_true
abbrev xO:=@Rat.num_divInt_den
abbrev xN:=@List.drop_length
abbrev xM:=@List.filter_cons_of_neg
abbrev xL:=@List.pairwise_map
abbrev xK:=@Nat.mul_left_comm
abbrev xJ:=@Nat.lt_succ_of_lt
abbrev xI:=@Nat.mul_lt_mul_of_pos_right
abbrev xH:=@Int.ediv_mul_cancel
abbrev xG:=@Int.ofNat_natAbs_of_nonpos
abbrev xF:=@List.setIfInBounds_toArray
abbrev xE:=@List.getElem?_eq_none
abbrev xD:=@Nat.add_sub_cancel
abbrev xC:=@Nat.le_of_eq
abbrev xB:=@Int.natAbs_dvd_natAbs
abbrev xA:=@Nat.le_of_dvd
abbrev xz:=@List.getLast?_eq_getElem?
abbrev xx:=@Nat.add_mul_mod_self_left
abbrev xw:=@Nat.lt_of_mul_lt_mul_left
abbrev xv:=@Int.natAbs_neg
abbrev xu:=@Nat.div_lt_of_lt_mul
abbrev xt:=@Int.natAbs_of_nonneg
abbrev xr:=@Nat.div_add_mod
abbrev xp:=@List.foldl_append
abbrev xl:=@List.map_append
abbrev xk:=@Rat.intCast_mul
abbrev xj:=@Nat.lt_or_ge
abbrev xi:=@Nat.le_of_lt
abbrev xh:=@Nat.add_assoc
abbrev xg:=@List.filter_cons_of_pos
abbrev xe:=@Int.natCast_dvd_natCast
abbrev xd:=@List.mem_flatMap
abbrev xc:=@Nat.mul_lt_mul''
abbrev xb:=@List.all_eq_true
abbrev xa:=@Rat.divInt
abbrev w_:=@List.getElem?_take
abbrev wZ:=@List.mem_replicate
abbrev wY:=@Int.zero_add
abbrev wX:=@Int.lt_or_le
abbrev wW:=@List.set_append_right
abbrev wV:=@Rat.one_mul
abbrev wU:=@Int.tdiv_eq_ediv_of_nonneg
abbrev wT:=@Nat.add_mul_div_left
abbrev wS:=@Bool.or_eq_false_iff
abbrev wR:=@Int.natCast_ediv
abbrev wQ:=@Nat.gcd_dvd_left
abbrev wP:=@Int.toNat_of_nonneg
abbrev wO:=@Nat.mul_one
abbrev wN:=@Rat.mul_comm
abbrev wM:=@Nat.div_lt_self
abbrev wL:=@Nat.mod_add_div
abbrev wK:=@List.getLast?_cons_cons
abbrev wJ:=@List.foldl_cons
abbrev wI:=@Nat.mul_add_div
abbrev wH:=@Nat.mul_add_mod
abbrev wG:=@Int.natCast_add
abbrev wF:=@List.getElem?_replicate
abbrev wE:=@Bool.false_ne_true
abbrev wD:=@List.mem_filterMap
abbrev wC:=@List.any_append
abbrev wB:=@Int.mul_ne_zero
abbrev ww:=@Rat.intCast_eq_zero_iff
abbrev wu:=@Nat.div_div_eq_div_mul
abbrev wt:=@Array.getElem?_eq_none
abbrev wn:=@Nat.one_le_iff_ne_zero
abbrev wm:=@Int.mul_neg
abbrev wj:=@Nat.gcd_dvd_right
abbrev wg:=@List.drop_zero
abbrev v_:=@Int.natAbs_pos
abbrev vZ:=@Array.getElem?_modify
abbrev vY:=@Rat.mul_zero
abbrev vX:=@List.drop_append_of_le_length
abbrev vW:=@List.take_append_of_le_length
abbrev vV:=@Int.le_antisymm
abbrev vU:=@List.take_succ_cons
abbrev vT:=@Int.neg_mul
abbrev vS:=@Nat.pos_iff_ne_zero
abbrev vQ:=@Int.tmod_eq_emod_of_nonneg
abbrev vO:=@Nat.mul_lt_mul_of_lt_of_le
abbrev vN:=@Array.ext_getElem?
abbrev vM:=@Rat.pow_zero
abbrev vL:=@List.getElem?_zip_eq_some
abbrev vK:=@Int.natAbs_ediv_le_natAbs
abbrev vJ:=@Int.lt_trichotomy
abbrev vI:=@Int.dvd_mul_of_dvd_right
abbrev vH:=@List.any_eq_false
abbrev vG:=@Nat.mul_pos
abbrev vF:=@Bool.false_or
abbrev vE:=@Int.neg_neg
abbrev vD:=@Nat.dvd_trans
abbrev vB:=@Rat.mul_one
abbrev vA:=@List.map_toArray
abbrev vw:=@Nat.min_le_right
abbrev u_:=@Int.add_zero
abbrev uZ:=@Nat.pow_zero
abbrev uY:=@Option.map_some
abbrev uX:=@Nat.not_lt_zero
abbrev uW:=@Bool.or_true
abbrev uV:=@Nat.succ_mul
abbrev uU:=@Nat.mod_one
abbrev uT:=@Rat.mul_add
abbrev uS:=@List.any_cons
abbrev uR:=@Nat.sub_le
abbrev uQ:=@Int.not_lt
section
open Go.RowKit
theorem Z_{p:Prop}(h:p):Hd p:=h
abbrev Ext(w w':World):Prop:=Below w.heap.size w w'
theorem Ext.trans{a b c:World}(h:Ext a b)(k:Ext b c):Ext a c:=Below.trans h (Below.mono k h.size)
theorem Ext.refl(w:World):Ext w w:=Below.refl _ _
abbrev uP:=@Ext.refl
theorem Ext.alloc{a w:World}(h:Ext a w)(o:Obj):Ext a (w.alloc o):=Below.alloc h h.size o
abbrev uO:=@Ext.alloc
theorem Zj{w:World}{b i:Nat}{v:Value}(h:w.cell? ⟨b,i,none⟩=some v):b<w.heap.size:=World.block_lt_of_cell? w _ h
theorem Ext.cell{w w':World}(h:Ext w w'){b i:Nat}{v:Value}(hc:w.cell? ⟨b,i,none⟩=some v):w'.cell? ⟨b,i,none⟩=some v :=
 (Below.cell h (p:=⟨b,i,none⟩) (Zj hc)).trans hc
abbrev uz:=@Ext.cell
theorem W9{B:Nat}{w w':World}(h:Below B w w'){b i:Nat}{v:Value}(hb:b<B)(hc:w.cell? ⟨b,i,none⟩=some v):w'.cell? ⟨b,i,none⟩=some v :=
 (Below.cell h (p:=⟨b,i,none⟩) hb).trans hc
theorem ZJ(w:World)(cs:Array Value)(T:TypeId){b i:Nat}{v:Value}(hb:b=w.heap.size)(h:cs[i]? = some v):(w.alloc (.cells cs T)).cell? ⟨b,i,none⟩=some v:=by
 subst hb;unfold World.cell?;rw[heap_alloc_new];simpa using h
theorem Z1{w:World}(o:Obj){b i:Nat}{v:Value}(hc:w.cell? ⟨b,i,none⟩=some v):(w.alloc o).cell? ⟨b,i,none⟩=some v:=uz (uO (uP w) o) hc
theorem NW{w:World}(o:Obj){b i:Nat}(hb:b<w.heap.size)(hf:w.frozen? ⟨b,i,none⟩=false):(w.alloc o).frozen? ⟨b,i,none⟩=false:=(Below.frozen (uO (uP w) o) (p:=⟨b,i,none⟩) hb).trans hf
theorem Zg{w:World}{a c:Addr}{u:Value}(hf:w.frozen? c=false):(w.setCell a u).frozen? c=false:=by simp[hf]
theorem YT{w:World}{a:Addr}{u v:Value}(h:w.cell? a=some u):(w.setCell a v).cell? a=some v:=World.cell?_setCell_same w a v h
theorem ZZ{w:World}{a:Addr}{u v:Value}{c:Addr}(h:w.cell? c=some u)(hne:a≠c):(w.setCell a v).cell? c=some u:=(World.cell?_setCell_other w a c v hne).trans h
theorem ao{b i j:Nat}(h:i≠j):(⟨b,i,none⟩:Addr)≠⟨b,j,none⟩:=λ e=>h (congrArg Addr.off e)
theorem ab{b c i j:Nat}(h:b≠c):(⟨b,i,none⟩:Addr)≠⟨c,j,none⟩:=λ e=>h (congrArg Addr.block e)
theorem Vt(w:World)(cs:Array Value)(T:TypeId){i:Nat}:(w.alloc (.cells cs T)).frozen? ⟨w.heap.size,i,none⟩=false:=by
 unfold World.frozen?;rw[heap_alloc_new];simp
theorem z03(w:World)(a:Addr)(u:Value):(w.setCell a u).heap.size=w.heap.size:=by simp[World.setCell]
theorem z00(w:World)(o:Obj):(w.alloc o).heap.size=w.heap.size+1:=by simp
theorem Ext.free{w w':World}(h:Ext w w'){b i:Nat}(hb:b<w.heap.size)(hf:w.frozen? ⟨b,i,none⟩=false):w'.frozen? ⟨b,i,none⟩=false:=(Below.frozen h (p:=⟨b,i,none⟩) hb).trans hf
structure RInt where
 neg:Bool
 mag:List Nat
 deriving DecidableEq,Inhabited
structure RTerm where
 c:RInt
 m:List (Int×Int)
 deriving DecidableEq,Inhabited
def Kept(S:Nat->Prop)(w w':World):Prop:=∀k,S k->w'.heap[k]? = w.heap[k]?
theorem Kept.cell{S:Nat->Prop}{w w':World}(h:Kept S w w'){b i:Nat}{v:Value}(hb:S b)(hc:w.cell? ⟨b,i,none⟩=some v):w'.cell? ⟨b,i,none⟩=some v :=
 (World.cell?_of_block (w:=w) (h b hb)).trans hc
theorem Kept.refl(S:Nat->Prop)(w:World):Kept S w w:=λ _ _=>rfl
abbrev uN:=@Kept.refl
theorem Kept.trans{S:Nat->Prop}{a b c:World}(h:Kept S a b)(k:Kept S b c):Kept S a c:=λ i hi=>(k i hi).trans (h i hi)
theorem Kept.of_below{B:Nat}{w w':World}(h:Below B w w'):Kept (· < B) w w':=λ k hk=>h.block k hk
theorem Kept.mono{S S':Nat->Prop}{w w':World}(h:Kept S w w')(hs:∀k,S' k->S k):Kept S' w w':=λ k hk=>h k (hs k hk)
theorem Kept.setCell{S:Nat->Prop}{w:World}{a:Addr}(h:¬ S a.block)(u:Value):Kept S w (w.setCell a u) :=
 λ _ hk=>Below.heap_setCell _ _ _ _ (λ e=>h (e ▸ hk))
abbrev uH:=@Kept.setCell
theorem Kept.grown{S:Nat->Prop}{w w':World}{row:Option Nat}(h:w.grownBy w' row)(hs:∀k,S k->k<w.heap.size/\some k≠row):Kept S w w' :=
 λ k hk=>h.block k (hs k hk).1 (hs k hk).2
abbrev uJ:=@Kept.grown
theorem Kept.alloc{S:Nat->Prop}{w:World}(h:∀k,S k->k<w.heap.size)(o:Obj):Kept S w (w.alloc o):=λ k hk=>Below.heap_alloc _ _ _ (h k hk)
abbrev uw:=@Kept.alloc
def z3r(S:Nat->Prop)(v:Value)(n:Nat)(b off:Nat):Prop :=
 ∃a cap,v=.slice a n cap/\n<=cap/\cap<=maxLen/\(0<n->a=some ⟨b,off,none⟩)/\(0<n->S b)
def U32s(S:Nat->Prop)(w:World)(v:Value)(zs:List Nat):Prop :=
 ∃b off,z3r S v zs.length b off/\∀j z,zs[j]? = some z->z<4294967296/\w.cell? ⟨b,off+j,none⟩=some (.int .u32 (z:Nat))
def Pows(S:Nat->Prop)(w:World)(v:Value)(ps:List (Int×Int)):Prop :=
 ∃b off,z3r S v ps.length b off/\∀j x,ps[j]? = some x->((-9223372036854775808<=x.1/\x.1<=9223372036854775807)/\-9223372036854775808<=x.2/\x.2<=9223372036854775807) /\
  w.cell? ⟨b,off+j*2,none⟩=some (.int .i64 x.1)/\w.cell? ⟨b,off+j*2+1,none⟩=some (.int .i64 x.2)
def z06(S:Nat->Prop)(w:World)(v:Value)(ts:List RTerm):Prop :=
 ∃b off,z3r S v ts.length b off/\∀j t,ts[j]? = some t->∃vm vo,w.cell? ⟨b,off+j*3,none⟩=some (.bool t.c.neg) /\
  w.cell? ⟨b,off+j*3+1,none⟩=some vm/\w.cell? ⟨b,off+j*3+2,none⟩=some vo/\U32s S w vm t.c.mag/\Pows S w vo t.m
def z1w(S:Nat->Prop)(w:World)(v:Value)(l:List (List RTerm)):Prop :=
 ∃b off,z3r S v l.length b off/\∀j p,l[j]? = some p->∃vp,w.cell? ⟨b,off+j,none⟩=some vp/\z06 S w vp p
theorem Zy{α:Type}{l:List α}{j:Nat}{x:α}(h:l[j]? = some x):j<l.length:=(yd.1 h).1
theorem ZN{α:Type}{l:List α}{j:Nat}(h:j<l.length):∃x,l[j]? = some x:=⟨l[j],zi h⟩
theorem z3r.mono{S S':Nat->Prop}{v:Value}{n b off:Nat}(h:z3r S v n b off)(hS:∀k,S k->S' k):z3r S' v n b off:=by
 obtain⟨a,cap,h1,h2,h3,h4,h5⟩:=h;exact⟨a,cap,h1,h2,h3,h4,λ x=>hS _ (h5 x)⟩
theorem z3r.in{S:Nat->Prop}{v:Value}{n b off:Nat}(h:z3r S v n b off){j:Nat}(hj:j<n):S b:=by
 obtain⟨a,cap,h1,h2,h3,h4,h5⟩:=h;exact h5 (by omega)
theorem U32s.form{S:Nat->Prop}{w:World}{v:Value}{zs:List Nat}(h:U32s S w v zs):∃a cap,v=.slice a zs.length cap:=by
 obtain⟨b,off,⟨a,cap,h1,_⟩,_⟩:=h;exact⟨a,cap,h1⟩
theorem Pows.form{S:Nat->Prop}{w:World}{v:Value}{zs:List (Int×Int)}(h:Pows S w v zs):∃a cap,v=.slice a zs.length cap:=by
 obtain⟨b,off,⟨a,cap,h1,_⟩,_⟩:=h;exact⟨a,cap,h1⟩
theorem z06.form{S:Nat->Prop}{w:World}{v:Value}{zs:List RTerm}(h:z06 S w v zs):∃a cap,v=.slice a zs.length cap:=by
 obtain⟨b,off,⟨a,cap,h1,_⟩,_⟩:=h;exact⟨a,cap,h1⟩
section
variable {S S':Nat->Prop} {w w':World} {v:Value}
theorem U32s.to{zs:List Nat}(h:U32s S w v zs)(hk:Kept S w w')(hS:∀k,S k->S' k):U32s S' w' v zs:=by
 obtain⟨b,off,hs,hc⟩:=h;exact⟨b,off,hs.mono hS,λ j z hz=>⟨(hc j z hz).1,hk.cell (hs.in (Zy hz)) (hc j z hz).2⟩⟩
theorem Pows.to{ps:List (Int×Int)}(h:Pows S w v ps)(hk:Kept S w w')(hS:∀k,S k->S' k):Pows S' w' v ps:=by
 obtain⟨b,off,hs,hc⟩:=h;exact⟨b,off,hs.mono hS,λ j x hj=>⟨(hc j x hj).1,hk.cell (hs.in (Zy hj)) (hc j x hj).2.1,hk.cell (hs.in (Zy hj)) (hc j x hj).2.2⟩⟩
theorem z06.to{ts:List RTerm}(h:z06 S w v ts)(hk:Kept S w w')(hS:∀k,S k->S' k):z06 S' w' v ts:=by
 obtain⟨b,off,y,z⟩:=h;refine⟨b,off,y.mono hS,λ j t hj=>?_⟩;obtain⟨vm,vo,J,I,D,O,K⟩:=z j t hj;have hb:=y.in (Zy hj);exact⟨vm,vo,hk.cell hb J,hk.cell hb I,hk.cell hb D,O.to hk hS,K.to hk hS⟩
theorem z1w.to{l:List (List RTerm)}(h:z1w S w v l)(hk:Kept S w w')(hS:∀k,S k->S' k):z1w S' w' v l:=by
 obtain⟨b,off,hs,hc⟩:=h;refine⟨b,off,hs.mono hS,λ j p hj=>?_⟩;obtain⟨vp,h1,h2⟩:=hc j p hj;exact⟨vp,hk.cell (hs.in (Zy hj)) h1,h2.to hk hS⟩
end
end
section
abbrev Z7:=List (Int×Int)
def z0d(last:Int):Z7->Bool
 | []=>true
 |x :: r=>decide (last<x.1/\x.1<=200/\1<=x.2/\x.2<=10000) && z0d x.1 r
def Z3(m:Z7):Bool:=z0d 0 m
def ex:Z7->Int->Int
 | [],_=>0
 |x :: r,v=>if x.1=v then x.2 else ex r v
def z52:Nat->Z7->Z7->List (Int×Int×Int)
 |0,_,_=>[]
 |_+1,[],[]=>[]
 |n+1,x :: a,[]=>(x.1,x.2,0) :: z52 n a []
 |n+1,[],y :: b=>(y.1,0,y.2) :: z52 n [] b
 |n+1,x :: a,y :: b=>if x.1<y.1 then(x.1,x.2,0) :: z52 n a (y :: b) else if y.1<x.1 then(y.1,0,y.2) :: z52 n (x :: a) b else(x.1,x.2,y.2) :: z52 n a b
def both(a b:Z7):List (Int×Int×Int):=z52 (a.length+b.length) a b
theorem T5(n m:Nat)(a b:Z7)(h:a.length+b.length<=n)(h':a.length+b.length<=m):z52 n a b=z52 m a b:=by
 induction n generalizing m a b with
 |zero=>
  obtain rfl:a=[]:=zO.1 (by omega);obtain rfl:b=[]:=zO.1 (by omega)
  cases m<;>rfl
 |succ n ih=>
  cases m with
  |zero=>
   obtain rfl:a=[]:=zO.1 (by omega);obtain rfl:b=[]:=zO.1 (by omega);rfl
  |succ m=>
   cases a with
   |nil=>
    cases b with
    |nil=>rfl
    |cons y b=>
     simp only[zo,zM]at h h';simp only[z52];rw[ih m [] b (by simp;omega) (by simp;omega)]
   |cons x a=>
    cases b with
    |nil=>
     simp only[zo,zM]at h h';simp only[z52];rw[ih m a [] (by simp;omega) (by simp;omega)]
    |cons y b=>
     simp only[zM]at h h';simp only[z52];rw[ih m a (y :: b) (by simp;omega) (by simp;omega),ih m (x :: a) b (by simp;omega) (by simp;omega),ih m a b (by omega) (by omega)]
theorem z9v:both [] []=[]:=rfl
theorem z7s(x:Int×Int)(a:Z7):both (x :: a) []=(x.1,x.2,0) :: both a []:=by
 unfold both;rw[T5 _ (a.length+1) _ _ (zR _) (by simp)];rfl
theorem z8n(y:Int×Int)(b:Z7):both [] (y :: b)=(y.1,0,y.2) :: both [] b:=by
 unfold both;rw[T5 _ (b.length+1) _ _ (zR _) (by simp)];simp[z52]
theorem Sf(x y:Int×Int)(a b:Z7):both (x :: a) (y :: b)=if x.1<y.1 then(x.1,x.2,0) :: both a (y :: b) else if y.1<x.1 then(y.1,0,y.2) :: both (x :: a) b else(x.1,x.2,y.2) :: both a b:=by
 unfold both;rw[T5 _ (a.length+b.length+1+1) _ _ (zR _) (by simp;omega)];simp only[z52];rw[T5 _ (a.length+(y :: b).length) a (y :: b) (by simp;omega) (zR _),T5 _ ((x :: a).length+b.length) (x :: a) b (by simp;omega) (zR _),T5 _ (a.length+b.length) a b (by omega) (zR _)]
theorem LV(a b:Z7):(both a b).length<=a.length+b.length:=by
 unfold both;generalize hn:a.length+b.length=n
 have h:∀n (a b:Z7),(z52 n a b).length<=n:=by
  intro n
  induction n with
  |zero=>intro a b;simp[z52]
  |succ n ih=>
   intro a b
   cases a with
   |nil=>
    cases b with
    |nil=>simp[z52]
    |cons y b=>simp only[z52,zM];have:=ih [] b;omega
   |cons x a=>
    cases b with
    |nil=>simp only[z52,zM];have:=ih a [];omega
    |cons y b=>
     simp only[z52];have h1:=ih a (y :: b);have h2:=ih (x :: a) b;have h3:=ih a b
     split
     ·simp only[zM];omega
     ·split<;>(simp only[zM];omega)
 exact h n a b
def cmpI(x y:Int):Int:=if x<y then -1 else if y<x then 1 else 0
def cmpL:List (Int×Int×Int)->Int->Int
 | [],c=>c
 |t :: r,c=>cmpL r (if t.2.1=t.2.2 then c else cmpI t.2.1 t.2.2)
def Zs(a b:Z7):Int:=cmpL (both a b) 0
def z3m(f:Int->Int->Int):List (Int×Int×Int)->Z7
 | []=>[]
 |t :: r=>if 0<f t.2.1 t.2.2 then(t.1,f t.2.1 t.2.2) :: z3m f r else z3m f r
def ZE(a b:Z7):Z7:=z3m (· + ·) (both a b)
def Y3(m:Z7)(v:Int):Z7:=m.filter (λ x=>x.1 != v)
def XF(a b:Z7):Int:=if Z3 a && Z3 b then Zs a b else 0
def z1s(m:Z7):Z7:=if Z3 m then m else []
def z1l(m:Z7):Int:=(m.getLast?.map (·.1)).getD 0
end
section
open Go.RowKit
theorem Pows.len_le{S:Nat->Prop}{w:World}{v:Value}{zs:Z7}(h:Pows S w v zs):zs.length<=9223372036854775807:=by
 obtain⟨b,off,⟨a,cap,h1,h2,h3,_⟩,_⟩:=h;unfold maxLen at h3;omega
theorem Pows.cons{S:Nat->Prop}{w:World}{v:Value}{x:Int×Int}{r:Z7}(h:Pows S w v (x :: r)) :
  ∃b off n cap,v=.slice (some ⟨b,off,none⟩) (n+1) cap/\n=r.length/\n+1<=cap/\cap<=9223372036854775807/\S b /\
   ((-9223372036854775808<=x.1/\x.1<=9223372036854775807)/\-9223372036854775808<=x.2/\x.2<=9223372036854775807) /\
   w.cell? ⟨b,off,none⟩=some (.int .i64 x.1)/\w.cell? ⟨b,off+1,none⟩=some (.int .i64 x.2) /\
   ∀a',(0<n->a'=some ⟨b,off+2,none⟩)->Pows S w (.slice a' n (cap-1)) r:=by
 obtain⟨b,off,⟨a,cap,rfl,I,O,U,J⟩,D⟩:=h;obtain rfl:=U (by simp);have z:=D 0 x rfl;simp only[yE,zp]at z;simp only[zM]at I;refine⟨b,off,r.length,cap,rfl,rfl,I,O,J (by simp),z.1,z.2.1,z.2.2,λ a' ha=>⟨b,off+2,⟨a',cap-1,rfl,by omega,by unfold maxLen at *;omega,ha,λ h=>J (by simp)⟩,λ j y hj=>?_⟩⟩;have K:=D (j+1) y (by simpa using hj);rw[show off+(j+1)*2=off+2+j*2 by omega]at K;exact K
theorem Pows.nil{S:Nat->Prop}{w:World}{v:Value}(h:Pows S w v []):∃a cap,v=.slice a 0 cap/\cap<=9223372036854775807:=by
 obtain⟨b,off,⟨a,cap,rfl,h2,h3,h4,h5⟩,hc⟩:=h;exact⟨a,cap,rfl,by unfold maxLen at *;omega⟩
theorem Pows.at{S:Nat->Prop}{w:World}{v:Value}{m:Z7}{k:Nat}{x:Int×Int}(h:Pows S w v m)(hx:m[k]? = some x) :
  ∃b off cap,v=.slice (some ⟨b,off,none⟩) m.length cap/\m.length<=cap/\cap<=9223372036854775807 /\
   ((-9223372036854775808<=x.1/\x.1<=9223372036854775807)/\-9223372036854775808<=x.2/\x.2<=9223372036854775807) /\
   w.cell? ⟨b,off+k*2,none⟩=some (.int .i64 x.1)/\w.cell? ⟨b,off+k*2+1,none⟩=some (.int .i64 x.2):=by
 obtain⟨b,off,⟨a,cap,rfl,h2,h3,h4,h5⟩,hc⟩:=h;obtain rfl:=h4 (by have:=Zy hx;omega);exact⟨b,off,cap,rfl,h2,h3,hc k x hx⟩
theorem Wh{α:Type}{l:List α}{k:Nat}{x:α}(h:l[k]? = some x):l.drop k=x :: l.drop (k+1):=by
 obtain⟨hk,rfl⟩:=yd.1 h;exact yr hk
theorem XG{S:Nat->Prop}(v:Value)(m:Z7)(w:World)(h:Pows S w v m)(hS:∀k,S k->k<w.heap.size) :
  Calls Tryz.prog 54 #[v] w λ e w'=>e=.returned (.bool (Z3 m))/\Ext w w':=by
 have hl:=h.len_le;have H:=Z_ h;obtain⟨a,cap,rfl⟩:=h.form
 go_enter Tryz.func54,Tryz.ntmps54
 go_wp2
 go_loopw [3,8] (λ l i wr=>∃(k:Nat) (y:Int),k<=m.length/\i=.int .i64 k/\l=.int .i64 y/\(-9223372036854775808<=y/\y<=9223372036854775807)/\Ext w wr/\z0d 0 m=z0d y (m.drop k)) (λ _ i _=>m.length-(intOf i).toNat)
 case atStart=>exact⟨0,0,zL _,rfl,rfl,by omega,uP _,rfl⟩
 case round=>
  obtain⟨k,y,hk,rfl,rfl,hyb,O,hm⟩:=hrel;have Z:=Z_ O;have HM:=Z_ hm;clear hm
  by_cases X:k<m.length
  ·obtain⟨t,K⟩:=ZN X;have hT:=Wh K;obtain⟨b,off,I,hv,hcap,hmax,⟨J,U⟩,h1,h2⟩:=(H.o.to (Kept.of_below O |>.mono hS) (λ k hk=>hk)).at K;obtain⟨rfl,-,rfl⟩:a=some ⟨b,off,none⟩/\True/\cap=I:=by simpa using hv
   clear hv;have HT:=Z_ hT;have HK:=Z_ K;clear K hT h O;obtain⟨x,z⟩:=t;simp only at h1 h2 J U
   rcases(show(x<=y∨200<x∨z<1∨10000<z)∨(y<x/\x<=200/\1<=z/\z<=10000) by omega) with D|⟨g1,g2,g3,g4⟩
   ·have hf:Z3 m=false:=by
     unfold Z3;rw[HM.o,HT.o,z0d];have:¬ (y<x/\x<=200/\1<=z/\z<=10000):=by omega
     simp[this]
    have HF:=Z_ hf;clear hf;rcases D with g|g|g|g<;>go_wp2
    all_goals
     go_ret;exact⟨by rw[HF.o];rfl,Z.o.alloc _⟩
   ·go_wp2
    go_roundw
    case rel=>exact⟨k+1,x,by omega,by go_num,rfl,J,Z.o.alloc _,by rw[HM.o,HT.o,z0d];simp[g1,g2,g3,g4]⟩
    case measure=>simp only[intOf];omega
  ·obtain rfl:k=m.length:=by omega
   go_wp2
   all_goals
    go_ret
    have e:Z3 m=true:=by
     unfold Z3;rw[HM.o];simp[z0d]
    exact⟨by rw[e];rfl,Z.o⟩
end
section
open Go.RowKit
def Yr:Value->Nat
 | .slice _ n _=>n
 |_=>0
def Zv(x:Int):Prop:=-9223372036854775808<=x/\x<=9223372036854775807
theorem QE{S:Nat->Prop}(g:Nat)(lb:Array Value)(eg:∀args w,(callFunc g args).run Tryz.prog w=.ok (.enter g args) w)(I:List (Int×Int×Int)->World->Prop)(a b:Z7)(w:World)
  (hI:∀d t r W,both a b=d++t :: r->I d W->Calls Tryz.prog g (#[.int .i64 t.1,.int .i64 t.2.1,.int .i64 t.2.2]++lb) W λ e W'=>e=.returned (.tuple #[])/\I (d ++ [t]) W')
  (hK:∀d W,I d W->Kept S w W) (hD:∀d W q,I d W->I d (W.drewN q)) (va vb:Value) (ha:Pows S w va a) (hb:Pows S w vb b) (h0:I [] w) :
  Calls Tryz.prog 126 #[va,vb,.func (.func g) #[] lb] w λ e w'=>e=.returned (.tuple #[])/\I (both a b) w':=by
 have HI:=Z_ hI;have HK:=Z_ hK;have HQ:=Z_ hD;clear hI hK hD
 go_enter Tryz.func126,Tryz.ntmps126
 go_wp2
 go_loopw [0,1] (λ x y wr=>∃d ra rb,both a b=d++both ra rb/\Pows S w x ra/\Pows S w y rb/\I d wr) (λ x y _=>Yr x+Yr y)
 case atStart=>exact⟨[],a,b,rfl,ha,hb,h0⟩
 case round=>
  obtain⟨d,ra,rb,U,ac,X,hi⟩:=hrel;have hk:=HK.o d _ hi;clear ha hb h0
  cases ra with
  |nil=>
   obtain⟨aa,ca,rfl,aN⟩:=ac.nil
   cases rb with
   |nil=>
    obtain⟨ab',cb,rfl,ax⟩:=X.nil;have HD:=Z_ U;have HF:=Z_ hi;clear U hi ac X hk;go_wp2
    all_goals
     go_end0
     refine⟨rfl,?_⟩;rw[HD.o,z9v,yj];exact HF.o
   |cons y rb=>
    obtain⟨bb,O,nb,cb,rfl,ar,hnc,ax,Z,⟨ay,az⟩,af,ae,al⟩:=X.cons;have ag:=hk.cell Z af;have ah:=hk.cell Z ae;rw[z8n]at U;have D:=λ q=>HI.o d _ _ (wr.drewN q) U (HQ.o d _ q hi);have HY:=Z_ (zS af ae);have HD:=Z_ U;have HA:=Z_ ac;have HB:=Z_ al;have HN:=Z_ ar;clear U hi ac X hk al ar af ae;obtain⟨v,z⟩:=y;simp only at ag ah ay az D HY;have q1:((nb:Int)+1 == 0)=false:=by simp;omega
    have HC:=Z_ D;clear D;go_wp2
    go_quiet (fail)
    go_wp2
    go_quiet (fail)
    go_wp2;have S0:∀q,(wr.drewN q).cell? ⟨bb,O,none⟩=some (.int .i64 v)/\(wr.drewN q).cell? ⟨bb,O+1,none⟩=some (.int .i64 z):=λ q=>⟨by simpa using ag,by simpa using ah⟩
    go_region_held3 (λ W=>W.cell? ⟨bb,O,none⟩=some (.int .i64 v)/\W.cell? ⟨bb,O+1,none⟩=some (.int .i64 z)) (first|exact S0 _|exact S1|(refine⟨?_,?_⟩<;>simpa))
     (first|(go_at_fn g;(with_reducible refine(HC.o _).mono ?_);rintro e w' ⟨rfl,J⟩;have S1:=zS ((HK.o _ _ J).cell Z HY.o.1) ((HK.o _ _ J).cell Z HY.o.2)))
    go_wp2
    go_roundw
    case rel=>
     refine⟨d ++ [(v,0,z)],[],rb,by rw[HD.o];simp,HA.o,HB.o _ (λ h=>if_neg (by omega)),J⟩
    case measure=>simp only[Yr];omega
  |cons x ra=>
   obtain⟨ba,K,na,ca,rfl,aB,hnca,aN,ad,⟨aC,aA⟩,aj,ai,au⟩:=ac.cons;have ap:=hk.cell ad aj;have aq:=hk.cell ad ai
   cases rb with
   |nil=>
    obtain⟨ab,cb,rfl,ax⟩:=X.nil;rw[z7s]at U;have D:=λ q=>HI.o d _ _ (wr.drewN q) U (HQ.o d _ q hi);have HY:=Z_ (zS aj ai);have HD:=Z_ U;have HA:=Z_ au;have HB:=Z_ X;clear U hi ac X hk au aB aj ai;obtain⟨v,z⟩:=x;simp only at ap aq aC aA D HY;have q1:((na:Int)+1 == 0)=false:=by simp;omega
    have HC:=Z_ D;clear D;go_wp2
    go_quiet (fail)
    go_wp2;have S0:∀q,(wr.drewN q).cell? ⟨ba,K,none⟩=some (.int .i64 v)/\(wr.drewN q).cell? ⟨ba,K+1,none⟩=some (.int .i64 z):=λ q=>⟨by simpa using ap,by simpa using aq⟩
    go_region_held3 (λ W=>W.cell? ⟨ba,K,none⟩=some (.int .i64 v)/\W.cell? ⟨ba,K+1,none⟩=some (.int .i64 z)) (first|exact S0 _|exact S1|(refine⟨?_,?_⟩<;>simpa))
     (first|(go_at_fn g;(with_reducible refine(HC.o _).mono ?_);rintro e w' ⟨rfl,J⟩;have S1:=zS ((HK.o _ _ J).cell ad HY.o.1) ((HK.o _ _ J).cell ad HY.o.2)))
    go_wp2
    go_roundw
    case rel=>
     refine⟨d ++ [(v,z,0)],ra,[],by rw[HD.o];simp,HA.o _ (λ h=>if_neg (by omega)),HB.o,J⟩
    case measure=>simp only[Yr];omega
   |cons y rb=>
    obtain⟨bb,O,nb,cb,rfl,ar,hncb,ax,Z,⟨ay,az⟩,af,ae,al⟩:=X.cons;have ag:=hk.cell Z af;have ah:=hk.cell Z ae;rw[Sf]at U;have HY:=Z_ (zS (zS aj ai) (zS af ae));have HA:=Z_ au;have HB:=Z_ al;have aH:=Z_ ac;have aG:=Z_ X;have q0:((na:Int)+1 == 0)=false:=by simp;omega
    have q1:((nb:Int)+1 == 0)=false:=by simp;omega
    obtain⟨u,z⟩:=x;obtain⟨v,t⟩:=y;simp only at ap aq aC aA ag ah ay az HY U;clear ac X hk au al aB ar aj ai af ae;have SA:∀q,(wr.drewN q).cell? ⟨ba,K,none⟩=some (.int .i64 u)/\(wr.drewN q).cell? ⟨ba,K+1,none⟩=some (.int .i64 z)/\(wr.drewN q).cell? ⟨bb,O,none⟩=some (.int .i64 v)/\(wr.drewN q).cell? ⟨bb,O+1,none⟩=some (.int .i64 t):=λ q=>⟨by simpa using ap,by simpa using aq,by simpa using ag,by simpa using ah⟩
    rcases(show u<v∨v<u∨u=v by omega) with av|av|aF
    ·rw[if_pos av]at U;have D:=λ q=>HI.o d _ _ (wr.drewN q) U (HQ.o d _ q hi);have HD:=Z_ U;have HC:=Z_ D;clear D U hi;go_wp2
     go_quiet (fail)
     go_wp2
     go_region_held3 (λ W=>W.cell? ⟨ba,K,none⟩=some (.int .i64 u)/\W.cell? ⟨ba,K+1,none⟩=some (.int .i64 z)) (first|exact⟨(SA _).1,(SA _).2.1⟩|exact S1|(refine⟨?_,?_⟩<;>simpa))
      (first|(go_at_fn g;(with_reducible refine(HC.o _).mono ?_);rintro e w' ⟨rfl,J⟩;have S1:=zS ((HK.o _ _ J).cell ad HY.o.1.1) ((HK.o _ _ J).cell ad HY.o.1.2)))
     go_wp2
     go_roundw
     case rel=>exact⟨d ++ [(u,z,0)],ra,(v,t) :: rb,by rw[HD.o];simp,HA.o _ (λ h=>if_neg (by omega)),aG.o,J⟩
     case measure=>simp only[Yr];omega
    ·rw[if_neg (by omega),if_pos av]at U;have D:=λ q=>HI.o d _ _ (wr.drewN q) U (HQ.o d _ q hi);have HD:=Z_ U;have HC:=Z_ D;clear D U hi;go_wp2
     go_quiet (fail)
     go_wp2
     go_quiet (fail)
     go_wp2
     go_region_held3 (λ W=>W.cell? ⟨bb,O,none⟩=some (.int .i64 v)/\W.cell? ⟨bb,O+1,none⟩=some (.int .i64 t)) (first|exact(SA _).2.2|exact S1|(refine⟨?_,?_⟩<;>simpa))
      (first|(go_at_fn g;(with_reducible refine(HC.o _).mono ?_);rintro e w' ⟨rfl,J⟩;have S1:=zS ((HK.o _ _ J).cell Z HY.o.2.1) ((HK.o _ _ J).cell Z HY.o.2.2)))
     go_wp2
     go_roundw
     case rel=>exact⟨d ++ [(v,0,t)],(u,z) :: ra,rb,by rw[HD.o];simp,aH.o,HB.o _ (λ h=>if_neg (by omega)),J⟩
     case measure=>simp only[Yr];omega
    ·subst aF;rw[if_neg (by omega),if_neg (by omega)]at U;have D:=λ q=>HI.o d _ _ (wr.drewN q) U (HQ.o d _ q hi);have HD:=Z_ U;have HC:=Z_ D;clear D U hi;go_wp2
     go_quiet (fail)
     go_wp2
     go_quiet (fail)
     go_wp2
     go_region_held3 (λ W=>W.cell? ⟨ba,K,none⟩=some (.int .i64 u)/\W.cell? ⟨ba,K+1,none⟩=some (.int .i64 z)/\W.cell? ⟨bb,O+1,none⟩=some (.int .i64 t)) (first|exact⟨(SA _).1,(SA _).2.1,(SA _).2.2.2⟩|exact S1|(refine⟨?_,?_,?_⟩<;>simpa))
      (first|(go_at_fn g;(with_reducible refine(HC.o _).mono ?_);rintro e w' ⟨rfl,J⟩;have S1:=zS ((HK.o _ _ J).cell ad HY.o.1.1) (zS ((HK.o _ _ J).cell ad HY.o.1.2) ((HK.o _ _ J).cell Z HY.o.2.2))))
     go_wp2
     go_quiet (fail)
     go_wp2
     go_roundw
     case rel=>exact⟨d ++ [(u,z,t)],ra,rb,by rw[HD.o];simp,HA.o _ (λ h=>if_neg (by omega)),HB.o _ (λ h=>if_neg (by omega)),HQ.o _ _ _ J⟩
     case measure=>simp only[Yr];omega
end
section
open Go.RowKit
theorem Ry(x:Int)(w:World)(_h1:-9223372036854775808<=x)(_h2:x<=9223372036854775807) :
  Calls Tryz.prog 151 #[.int .i64 x] w λ e w'=>e=.returned (.bool false)/\w'=w:=by
 have hb:(x != x)=false:=by simp
 go_enter Tryz.func151,Tryz.ntmps151
 go_wp2
 all_goals
  go_ret;exact⟨rfl,rfl⟩
theorem AN(x y:Int)(w:World)(hx:-9223372036854775808<=x/\x<=9223372036854775807)(hy:-9223372036854775808<=y/\y<=9223372036854775807) :
  Calls Tryz.prog 128 #[.int .i64 x,.int .i64 y] w λ e w'=>e=.returned (.int .i64 (cmpI x y))/\w'=w:=by
 obtain⟨hx1,hx2⟩:=hx;obtain⟨hy1,hy2⟩:=hy
 rcases(show x<y∨y<x∨x=y by omega) with h|h|h
 ·have e:cmpI x y = -1:=by simp[cmpI,h]
  rw[e];clear e
  go_enter Tryz.func128,Tryz.ntmps128
  go_wp2_with (go_at_call 151;refine(Ry _ _ (by assumption) (by assumption)).mono ?_;rintro e w' ⟨rfl,rfl⟩)
  all_goals
   go_ret;exact⟨rfl,rfl⟩
 ·have e:cmpI x y=1:=by simp[cmpI,h];omega
  rw[e];clear e
  go_enter Tryz.func128,Tryz.ntmps128
  go_wp2_with (go_at_call 151;refine(Ry _ _ (by assumption) (by assumption)).mono ?_;rintro e w' ⟨rfl,rfl⟩)
  all_goals
   go_ret;exact⟨rfl,rfl⟩
 ·subst h;have e:cmpI x x=0:=by simp[cmpI]
  rw[e];clear e
  go_enter Tryz.func128,Tryz.ntmps128
  go_wp2_with (go_at_call 151;refine(Ry _ _ (by assumption) (by assumption)).mono ?_;rintro e w' ⟨rfl,rfl⟩)
  all_goals
   go_ret;exact⟨rfl,rfl⟩
theorem GZ(z x y c:Int)(b:Nat)(w:World)(hx:Zv x)(hy:Zv y)(hc:w.cell? ⟨b,0,none⟩=some (.int .i64 c))(hf:w.frozen? ⟨b,0,none⟩=false) :
  Calls Tryz.prog 127 #[.int .i64 z,.int .i64 x,.int .i64 y,.pointer (some ⟨b,0,none⟩)] w λ e w'=>e=.returned (.tuple #[])/\w'=if x=y then w else w.setCell ⟨b,0,none⟩ (.int .i64 (cmpI x y)):=by
 unfold Zv at hx hy
 by_cases h:x=y
 ·subst h;have hb:(x != x)=false:=by simp
  go_enter Tryz.func127,Tryz.ntmps127
  go_wp2
  all_goals
   go_end0
   simp
 ·have hb:(x != y)=true:=by simpa using h
  rw[if_neg h]
  go_enter Tryz.func127,Tryz.ntmps127
  go_wp2_with (go_at_call 128;refine(AN _ _ _ hx hy).mono ?_;rintro e w' ⟨rfl,rfl⟩)
  all_goals
   go_end0
   exact⟨rfl,rfl⟩
theorem z9(d:List (Int×Int×Int))(t:Int×Int×Int)(c:Int):cmpL (d ++ [t]) c=if t.2.1=t.2.2 then cmpL d c else cmpI t.2.1 t.2.2:=by
 induction d generalizing c with
 |nil=>simp[cmpL]
 |cons s d ih=>simp[cmpL,ih]
def inBounds(m:Z7):Prop:=∀x∈m,Zv x.1/\Zv x.2
theorem Pows.inBounds{S:Nat->Prop}{w:World}{v:Value}{m:Z7}(h:Pows S w v m):inBounds m:=by
 obtain⟨b,off,hs,hc⟩:=h;intro x hx;obtain⟨j,hj⟩:=yp hx;exact(hc j x hj).1
theorem AU(n:Nat)(a b:Z7)(ha:inBounds a)(hb:inBounds b):∀t∈z52 n a b,Zv t.1/\Zv t.2.1/\Zv t.2.2:=by
 have O:Zv 0:=by unfold Zv;omega
 induction n generalizing a b with
 |zero=>intro t z;simp[z52]at z
 |succ n ih=>
  intro t z
  cases a with
  |nil=>
   cases b with
   |nil=>simp[z52]at z
   |cons y b=>
    simp only[z52,zJ]at z;have J:=hb y (by simp)
    rcases z with rfl|z
    ·exact⟨J.1,O,J.2⟩
    ·exact ih [] b ha (λ x D=>hb x (by simp[D])) t z
  |cons x a=>
   have D:=ha x (by simp);have I:inBounds a:=λ x D=>ha x (by simp[D])
   cases b with
   |nil=>
    simp only[z52,zJ]at z
    rcases z with rfl|z
    ·exact⟨D.1,D.2,O⟩
    ·exact ih a [] I hb t z
   |cons y b=>
    have J:=hb y (by simp);have K:inBounds b:=λ x D=>hb x (by simp[D]);simp only[z52]at z
    split at z
    ·rcases zJ.1 z with rfl|z
     ·exact⟨D.1,D.2,O⟩
     ·exact ih a (y :: b) I hb t z
    ·split at z
     ·rcases zJ.1 z with rfl|z
      ·exact⟨J.1,O,J.2⟩
      ·exact ih (x :: a) b ha K t z
     ·rcases zJ.1 z with rfl|z
      ·exact⟨D.1,D.2,J.2⟩
      ·exact ih a b I K t z
theorem Q4{a b:Z7}(ha:inBounds a)(hb:inBounds b):∀t∈both a b,Zv t.1/\Zv t.2.1/\Zv t.2.2:=AU _ a b ha hb
end
section
open Go.RowKit
theorem Kept.ext{S:Nat->Prop}{w w':World}(h:Ext w w')(hS:∀k,S k->k<w.heap.size):Kept S w w':=(Kept.of_below h).mono hS
abbrev uM:=@Kept.ext
theorem Ext.drewN{a w:World}(h:Ext a w)(q:Nat):Ext a (w.drewN q) :=
 ⟨h.os,h.tape,h.output,h.size,h.block⟩
theorem Bb{S:Nat->Prop}(va vb:Value)(a b:Z7)(w:World)(ha:Pows S w va a)(hb:Pows S w vb b)(hS:∀k,S k->k<w.heap.size) :
  Calls Tryz.prog 94 #[va,vb] w λ e w'=>e=.returned (.tuple #[.int .i64 (if Z3 a && Z3 b then Zs a b else 0),.int .i64 (if Z3 a && Z3 b then 0 else 2)])/\Ext w w':=by
 have hmf:∀(fn:Fn) (first cap:Array Value) (w:World),(Instr.makeFunc fn first cap).run Tryz.prog w=.ok (.func fn first cap) w:=λ _ _ _ _=>rfl;have hnot:∀(x:Bool) (w:World),(Op.unary .not (.bool x)).run Tryz.prog w=.ok (.bool (!x)) w:=λ _ _=>rfl;have Z:=Z_ ha;have HB:=Z_ hb;obtain⟨aa,ca,rfl⟩:=ha.form;obtain⟨ab,cb,rfl⟩:=hb.form;clear ha hb
 go_enter Tryz.func94,Tryz.ntmps94
 go_wp2_with fail;refine(XG _ a w Z.o hS).mono ?_;rintro e w1 ⟨rfl,X⟩;have D:=Z_ X;clear X
 cases hma:Z3 a with
 |false=>
  go_wp2
  all_goals
   go_ret2;exact⟨rfl,D.o⟩
 |true=>
  go_wp2_with fail;refine(XG _ b w1 (HB.o.to (uM D.o hS) (λ _ h=>h)) (λ k K=>zU (hS k K) D.o.size)).mono ?_;rintro e w2 ⟨rfl,U⟩;have y:=Z_ (D.o.trans U);clear U
  cases hmb:Z3 b with
  |false=>
   go_wp2
   all_goals
    go_ret2;exact⟨rfl,y.o⟩
  |true=>
   go_wp2_with fail;have O:∀k,S k->k<w2.heap.size:=λ k K=>zU (hS k K) y.o.size
   refine(QE (S:=S) 127 #[.pointer (some ⟨w2.heap.size,0,none⟩)] (enters_of Tryz.func127 (by kernel_rfl) rfl)
    (λ d W=>W.cell? ⟨w2.heap.size,0,none⟩=some (.int .i64 (cmpL d 0))/\W.frozen? ⟨w2.heap.size,0,none⟩=false/\Ext w2 W) a b _ ?_ ?_ ?_ _ _
    (Z.o.to (uM (y.o.alloc _) hS) (λ _ h=>h)) (HB.o.to (uM (y.o.alloc _) hS) (λ _ h=>h)) ⟨ZJ _ _ _ rfl rfl,Vt _ _ _,uO (uP _) _⟩).mono ?_
   ·rintro d t r W hd ⟨J,I,z⟩;have hb:=Q4 Z.o.inBounds HB.o.inBounds t (by rw[hd];simp);rw[show(#[Value.int .i64 t.1,.int .i64 t.2.1,.int .i64 t.2.2] ++ #[.pointer (some ⟨w2.heap.size,0,none⟩)]:Array Value)=#[.int .i64 t.1,.int .i64 t.2.1,.int .i64 t.2.2,.pointer (some ⟨w2.heap.size,0,none⟩)] from rfl];refine(GZ t.1 t.2.1 t.2.2 _ _ W hb.2.1 hb.2.2 J I).mono ?_;rintro e w' ⟨rfl,rfl⟩;refine⟨rfl,?_⟩;rw[z9]
    split
    ·exact⟨J,I,z⟩
    ·exact⟨YT J,Zg I,z.setCell (p:=⟨w2.heap.size,0,none⟩) (zR _) _⟩
   ·rintro d W ⟨_,_,z⟩ k K;exact(uM z O k K).trans (uM (uO (uP w2) _) O k K).symm
   ·rintro d W q ⟨J,I,z⟩;exact⟨by simpa using J,by simpa using I,z.drewN q⟩
   rintro e w3 ⟨rfl,J,I,z⟩;have ac:=Z_ (y.o.trans z);clear z;go_wp2
   all_goals
    go_ret2;exact⟨rfl,ac.o⟩
end
section
open Go.RowKit
theorem Pows.empty(S:Nat->Prop)(w:World)(a:Option Addr):Pows S w (.slice a 0 0) [] :=
 ⟨0,0,⟨a,0,rfl,zR _,zL _,λ h=>absurd h (yQ _),λ h=>absurd h (yQ _)⟩,λ j x hx=>by simp at hx⟩
abbrev uB:=@Pows.empty
def JJ(a b:Z7):Int:=if Z3 a && Z3 b then 0 else 2
theorem Gp{S:Nat->Prop}(va vb:Value)(a b:Z7)(w:World)(ha:Pows S w va a)(hb:Pows S w vb b)(hS:∀k,S k->k<w.heap.size) :
  Calls Tryz.prog 94 #[va,vb] w λ e w'=>e=.returned (.tuple #[.int .i64 (XF a b),.int .i64 (JJ a b)])/\Ext w w':=Bb va vb a b w ha hb hS
theorem Se{S:Nat->Prop}(va vb:Value)(a b:Z7)(w:World)(ha:Pows S w va a)(hb:Pows S w vb b)(hS:∀k,S k->k<w.heap.size) :
  Calls Tryz.prog 55 #[va,vb] w λ e w'=>e=.returned (.int .i64 (XF a b))/\Ext w w':=by
 have I:=Z_ ha;have D:=Z_ hb;obtain⟨aa,ca,rfl⟩:=ha.form;obtain⟨ab,cb,rfl⟩:=hb.form;clear ha hb
 go_enter Tryz.func55,Tryz.ntmps55
 go_wp2_with fail;refine(Gp _ _ a b w I.o D.o hS).mono ?_;rintro e w1 ⟨rfl,y⟩;have z:=Z_ y;clear y;go_wp2
 all_goals
  go_ret;exact⟨rfl,z.o⟩
theorem Qh{S:Nat->Prop}(v:Value)(m:Z7)(w:World)(h:Pows S w v m)(hS:∀k,S k->k<w.heap.size) :
  Calls Tryz.prog 96 #[v] w λ e w'=>∃v',e=.returned v'/\Pows S w' v' (z1s m)/\Ext w w':=by
 have H:=Z_ h;obtain⟨a,c,rfl⟩:=h.form;clear h
 go_enter Tryz.func96,Tryz.ntmps96
 go_wp2_with fail;refine(XG _ m w H.o hS).mono ?_;rintro e w1 ⟨rfl,z⟩;have y:=Z_ z;clear z
 cases hm:Z3 m with
 |false=>
  go_wp2
  all_goals
   go_ret;refine⟨_,rfl,?_,y.o⟩;rw[show z1s m=[] by simp[z1s,hm]];exact uB _ _ _
 |true=>
  go_wp2
  all_goals
   go_ret;refine⟨_,rfl,?_,y.o⟩;rw[show z1s m=m by simp[z1s,hm]];exact H.o.to (uM y.o hS) (λ _ h=>h)
theorem E7{m:Z7}{k:Nat}{x:Int×Int}{v:Int}(h:m[k]? = some x):ex (m.drop k) v=if x.1=v then x.2 else ex (m.drop (k+1)) v:=by
 rw[Wh h];rfl
theorem Ng{S:Nat->Prop}(v:Value)(m:Z7)(x:Int)(w:World)(h:Pows S w v m)(hS:∀k,S k->k<w.heap.size)(_hx:-9223372036854775808<=x/\x<=9223372036854775807) :
  Calls Tryz.prog 75 #[v,.int .i64 x] w λ e w'=>e=.returned (.int .i64 (ex (z1s m) x))/\Ext w w':=by
 have H:=Z_ h;obtain⟨a,c,rfl⟩:=h.form;clear h
 go_enter Tryz.func75,Tryz.ntmps75
 go_wp2_with fail;refine(Qh _ m w H.o hS).mono ?_;rintro e w1 ⟨v',rfl,U,D⟩;have aa:∀k,S k->k<w1.heap.size:=λ k hk=>zU (hS k hk) D.size;have O:=Z_ D;clear D H;generalize hpm:z1s m=m' at U;have J:=Z_ hpm;clear hpm;have hl:=U.len_le;have HP:=Z_ U;obtain⟨a',c',rfl⟩:=U.form;clear U;go_wp2
 go_loopw [10] (λ i wr=>∃k:Nat,k<=m'.length/\i=.int .i64 k/\Ext w1 wr/\ex m' x=ex (m'.drop k) x) (λ i _=>m'.length-(intOf i).toNat)
 case atStart=>exact⟨0,zL _,rfl,uP _,rfl⟩
 case round=>
  obtain⟨k,hk,rfl,y,hm⟩:=hrel;have HM:=Z_ hm;clear hm
  by_cases ac:k<m'.length
  ·obtain⟨t,ht⟩:=ZN ac;obtain⟨b,off,K,hv,hcap,hmax,⟨ad,Z⟩,h1,h2⟩:=(HP.o.to (uM y aa) (λ _ h=>h)).at ht;obtain⟨rfl,-,rfl⟩:a'=some ⟨b,off,none⟩/\True/\c'=K:=by simpa using hv
   have HE:=Z_ (E7 (v:=x) ht);have X:=Z_ y;clear hv ht y;obtain⟨u,z⟩:=t;simp only at h1 h2 ad Z HE
   by_cases I:u=x
   ·have hb:(u == x)=true:=by simpa using I
    have HU:=Z_ I;clear I;go_wp2
    all_goals
     go_ret;refine⟨?_,O.o.trans (X.o.alloc _)⟩;rw[J.o,HM.o,HE.o,if_pos HU.o];rfl
   ·have hb:(u == x)=false:=by simpa using I
    have HU:=Z_ I;clear I;go_wp2
    go_roundw
    case rel=>exact⟨k+1,by omega,by go_num,X.o.alloc _,by rw[HM.o,HE.o,if_neg HU.o]⟩
    case measure=>simp only[intOf];omega
  ·obtain rfl:k=m'.length:=by omega
   have X:=Z_ y;go_wp2
   all_goals
    go_ret;refine⟨?_,O.o.trans X.o⟩;rw[J.o,HM.o,xN];rfl
theorem GJ{S:Nat->Prop}(v:Value)(m:Z7)(w:World)(h:Pows S w v m)(hS:∀k,S k->k<w.heap.size) :
  Calls Tryz.prog 57 #[v] w λ e w'=>e=.returned (.int .i64 (z1l (z1s m)))/\Ext w w':=by
 have H:=Z_ h;obtain⟨a,c,rfl⟩:=h.form;clear h
 go_enter Tryz.func57,Tryz.ntmps57
 go_wp2_with fail;refine(Qh _ m w H.o hS).mono ?_;rintro e w1 ⟨v',rfl,I,J⟩;have D:=Z_ J;clear J H;generalize hpm:z1s m=m' at I;have y:=Z_ hpm;clear hpm;have hl:=I.len_le;have X:=Z_ I;obtain⟨a',U,rfl⟩:=I.form;clear I
 by_cases h0:0<m'.length
 ·obtain⟨t,K⟩:=ZN (show m'.length-1<m'.length by omega);obtain⟨b,off,z,O,hcap,hmax,⟨hb1,hb2⟩,h1,h2⟩:=X.o.at K;obtain⟨rfl,-,rfl⟩:a'=some ⟨b,off,none⟩/\True/\U=z:=by simpa using O
  have e:z1l m'=t.1:=by
   unfold z1l;rw[xz,K];rfl
  have E:=Z_ e;clear O K e;go_wp2
  all_goals
   go_ret;refine⟨?_,D.o⟩;rw[y.o,E.o];rfl
 ·have e:m'=[]:=zO.1 (by omega);subst e;go_wp2
  all_goals
   go_ret;refine⟨?_,D.o⟩;rw[y.o];rfl
end
section
open Go.RowKit
def YC(m:Z7):List Value:=m.flatMap λ x=>[.int .i64 x.1,.int .i64 x.2]
theorem z63(m k:Z7):YC (m++k)=YC m++YC k:=by simp[YC]
theorem O4(m:Z7):(YC m).length=m.length*2:=by
 induction m with
 |nil=>rfl
 |cons x r ih=>
  show(Value.int .i64 x.1 :: Value.int .i64 x.2 :: YC r).length=_;simp only[zM,ih];omega
theorem Qw{m:Z7}{j:Nat}{x:Int×Int}(h:m[j]? = some x):(YC m)[j*2]? = some (.int .i64 x.1)/\(YC m)[j*2+1]? = some (.int .i64 x.2):=by
 induction m generalizing j with
 |nil=>simp at h
 |cons y r ih=>
  have e:YC (y :: r)=Value.int .i64 y.1 :: Value.int .i64 y.2 :: YC r:=rfl;rw[e]
  cases j with
  |zero=>
   simp at h;subst h;exact⟨rfl,rfl⟩
  |succ j=>
   have:=ih (j:=j) (by simpa using h);rw[show(j+1)*2=j*2+1+1 by omega];simpa using this
theorem Ut{w:World}{base:Nat}{e:TypeId}{v:Value}{m:Z7}(h:w.ownsRow base e 2 v m.length (YC m))(hb:inBounds m):Pows (λ k=>base<=k/\k<w.heap.size) w v m:=by
 have y:=h.lt
 rcases h.2 with ⟨rfl,z⟩|⟨g,cap,cur,rfl,hg,hh,I,D,h3,h4⟩
 ·obtain rfl:m=[]:=zO.1 z;exact uB _ _ _
 ·refine⟨g,0,⟨_,cap,rfl,I,D,λ _=>rfl,λ _=>y g rfl⟩,λ j x hj=>⟨hb x (zP hj),?_,?_⟩⟩
  ·rw[h.cellAt (0+j*2) (by have:=Zy hj;omega),zr];exact(Qw hj).1
  ·rw[h.cellAt (0+j*2+1) (by have:=Zy hj;omega),zr];exact(Qw hj).2
theorem YU{a w w':World}{row:Option Nat}(h:Ext a w)(hg:w.grownBy w' row)(hr:∀k,row=some k->a.heap.size<=k):Ext a w' :=
 ⟨hg.os.trans h.os,hg.tape.trans h.tape,hg.output.trans h.output,zT h.size hg.size,
  λ k hk=>(hg.block k (zU hk h.size) (λ e=>by have:=hr k e.symm;omega)).trans (h.block k hk)⟩
theorem GN{last:Int}{m:Z7}(h:z0d last m=true)(h0:0<=last)(h2:last<=200):(m.length:Int)<=200-last:=by
 induction m generalizing last with
 |nil=>simp;omega
 |cons x r ih=>
  simp only[z0d,zK,decide_eq_true_eq]at h;have:=ih h.2 (by omega) (by omega);simp only[zM];omega
theorem WR{m:Z7}(h:Z3 m=true):m.length<=200:=by
 have:=GN h (by omega) (by omega);omega
theorem G1(m:Z7):(z1s m).length<=200:=by
 unfold z1s
 split
 ·rename_i h
  exact WR h
 ·simp
end
section
def val(B:Nat):List Nat->Nat
 | []=>0
 |z :: r=>z+B*val B r
def repF(B:Nat):Nat->Nat->List Nat
 |0,_=>[]
 |f+1,n=>if n=0 then [] else(n % B) :: repF B f (n / B)
def Z4(B n:Nat):List Nat:=repF B n n
def zby:List Nat->List Nat
 | []=>[]
 |d :: r=>if zby r=[]/\d=0 then [] else d :: zby r
section
variable {B:Nat}
theorem z9x(f:Nat):repF B f 0=[]:=by cases f<;>simp[repF]
theorem Gc(hB:2<=B)(f g n:Nat)(hf:n<=f)(hg:n<=g):repF B f n=repF B g n:=by
 induction f generalizing g n with
 |zero=>
  obtain rfl:n=0:=by omega
  rw[z9x,z9x]
 |succ f ih=>
  cases g with
  |zero=>
   obtain rfl:n=0:=by omega
   rw[z9x,z9x]
  |succ g=>
   simp only[repF]
   split
   ·rfl
   ·have h:n / B<n:=wM (by omega) (by omega);rw[ih g (n / B) (by omega) (by omega)]
theorem z3v:Z4 B 0=[]:=rfl
theorem VB(hB:2<=B){n:Nat}(h:0<n):Z4 B n=(n % B) :: Z4 B (n / B):=by
 unfold Z4;have hd:n / B<n:=wM h (by omega);obtain⟨m,rfl⟩:∃m,n=m+1:=⟨n-1,by omega⟩
 rw[repF,if_neg (by omega),Gc hB m ((m+1) / B) _ (by omega) (zR _)]
theorem ZB(hB:2<=B)(n:Nat):val B (Z4 B n)=n:=by
 induction n using Nat.strongRecOn with
 |ind n ih=>
  by_cases h:n=0
  ·subst h;rfl
  ·rw[VB hB (by omega),val,ih _ (wM (by omega) (by omega))];exact wL n B
theorem XX(hB:2<=B)(n:Nat):∀d∈Z4 B n,d<B:=by
 induction n using Nat.strongRecOn with
 |ind n ih=>
  by_cases h:n=0
  ·subst h;intro d y;simp[z3v]at y
  ·rw[VB hB (by omega)];intro d y
   rcases zJ.1 y with rfl|y
   ·exact yS _ (by omega)
   ·exact ih _ (wM (by omega) (by omega)) d y
theorem WG(hB:2<=B){n:Nat}:Z4 B n=[]↔n=0:=by
 constructor
 ·intro h;have:=ZB hB n;rw[h]at this;exact this.symm
 ·rintro rfl;rfl
theorem Eu(hB:2<=B){d m:Nat}(hd:d<B)(h:¬ (m=0/\d=0)):Z4 B (d+B*m)=d :: Z4 B m:=by
 have y:0<d+B*m:=by
  rcases zj m with rfl|z
  ·omega
  ·have:=vG (show 0<B by omega) z;omega
 rw[VB hB y,xx,yB hd,wT _ _ (by omega),yb hd,zr]
theorem Uw(hB:2<=B)(l:List Nat)(hl:∀d∈l,d<B):zby l=Z4 B (val B l):=by
 induction l with
 |nil=>rfl
 |cons d r y=>
  have y:=y (λ x hx=>hl x (yX _ hx));simp only[zby,val];have z:=hl d (by simp);rw[y]
  by_cases h:val B r=0/\d=0
  ·rw[if_pos ⟨(WG hB).2 h.1,h.2⟩,h.1,h.2];simp[z3v]
  ·rw[if_neg (λ g=>h ⟨(WG hB).1 g.1,g.2⟩),Eu hB z h]
theorem Y4(l:List Nat)(hl:∀d∈l,d<B):val B l<B^l.length:=by
 induction l with
 |nil=>simp[val]
 |cons d r y=>
  have y:=y (λ x hx=>hl x (yX _ hx));have hd:=hl d (by simp);simp only[val,zM,yY];have h:B*(val B r+1)<=B*B^r.length:=yV _ y;rw[zy]at h;rw[zq (B^r.length) B];omega
theorem YZ(hB:2<=B)(n k:Nat)(h:n<B^k):(Z4 B n).length<=k:=by
 induction k generalizing n with
 |zero=>
  obtain rfl:n=0:=by simpa using h
  simp[z3v]
 |succ k ih=>
  by_cases y:n=0
  ·subst y;simp[z3v]
  ·rw[VB hB (by omega),zM];have:=ih (n / B) (by rw[Nat.div_lt_iff_lt_mul (by omega),<-yY];exact h);omega
theorem Xq(hB:2<=B)(n:Nat):n<B^(Z4 B n).length:=by
 have:=Y4 (Z4 B n) (XX hB n)
 rwa [ZB hB]at this
theorem z43(l m:List Nat):val B (l++m)=val B l+B^l.length*val B m:=by
 induction l with
 |nil=>simp[val]
 |cons d r ih=>
  simp only[zc,val,ih,zM,yY,zy];rw[zq (B^r.length) B,zu];omega
theorem z64(l:List Nat)(z:Nat):val B (l ++ [z])=val B l+B^l.length*z:=by
 rw[z43];simp[val]
theorem TR{l:List Nat}{k z:Nat}(h:l[k]? = some z):val B (l.take (k+1))=val B (l.take k)+B^k*z:=by
 rw[zv,h];obtain⟨hk,_⟩:=yd.1 h;show val B (l.take k ++ [z])=_;rw[z64,zD,xR (by omega)]
theorem UB{l:List Nat}{k z:Nat}(h:l[k]? = some z):val B (l.drop k)=z+B*val B (l.drop (k+1)):=by
 obtain⟨hk,rfl⟩:=yd.1 h;rw[yr hk,val]
theorem z6q(n:Nat):val B (List.replicate n 0)=0:=by
 induction n with
 |zero=>rfl
 |succ n ih=>simp[List.replicate_succ,val,ih]
theorem BG(hB:2<=B)(l:List Nat)(hl:∀d∈l,d<B)(hc:l.getLast?≠some 0):Z4 B (val B l)=l:=by
 rw[<-Uw hB l hl];clear hl
 induction l with
 |nil=>rfl
 |cons d r ih=>
  simp only[zby]
  cases r with
  |nil=>
   simp[zby]at hc⊢;exact hc
  |cons e r=>
   rw[wK]at hc;rw[ih hc];simp
theorem Rc(hB:2<=B)(n:Nat):(Z4 B n).getLast?≠some 0:=by
 induction n using Nat.strongRecOn with
 |ind n y=>
  by_cases h:n=0
  ·subst h;simp[z3v]
  ·rw[VB hB (by omega)];have y:=y (n / B) (wM (by omega) (by omega))
   by_cases z:n / B=0
   ·rw[z,z3v];have:n % B=n:=yB ((Nat.div_eq_zero_iff_lt (by omega)).1 z);simp[this,h]
   ·have D:0<n / B:=Nat.pos_of_ne_zero z;rw[VB hB D]at y⊢;rw[wK];exact y
end
def z32(zs:List Nat):Nat->Nat
 |0=>0
 |k+1=>if zs[k]? = some 0 then z32 zs k else k+1
theorem Fe(zs:List Nat)(k:Nat):z32 zs k<=k:=by
 induction k with
 |zero=>simp[z32]
 |succ k ih=>simp only[z32];split<;>omega
theorem F8(l:List Nat)(z:Nat):zby (l ++ [z])=if z=0 then zby l else l ++ [z]:=by
 induction l with
 |nil=>simp[zby]
 |cons d r ih=>
  simp only[zc,zby,ih]
  split
  ·rfl
  ·simp
theorem SZ(zs:List Nat)(k:Nat)(hk:k<=zs.length):zs.take (z32 zs k)=zby (zs.take k):=by
 induction k with
 |zero=>simp[z32,zby]
 |succ k ih=>
  have h:zs[k]? = some zs[k]:=zi (by omega);have e:zs.take (k+1)=zs.take k ++ [zs[k]]:=by rw[zv,h];rfl
  simp only[z32];rw[e,F8,h]
  split
  ·rename_i h0
   rw[ih (by omega),if_pos (by simpa using h0)]
  ·rename_i h0
   rw[if_neg (by simpa using h0),e]
end
section
def dg(l:List Nat)(k:Nat):Nat:=(l[k]?).getD 0
theorem Zi{l:List Nat}{k z:Nat}(h:l[k]? = some z):dg l k=z:=by simp[dg,h]
theorem Yv{l:List Nat}{k:Nat}(h:l.length<=k):dg l k=0:=by simp[dg,List.getElem?_eq_none h]
theorem TX{B:Nat}(hB:0<B){l:List Nat}(hl:∀d∈l,d<B)(k:Nat):dg l k<B:=by
 unfold dg
 cases h:l[k]? with
 |none=>simpa using hB
 |some z=>exact hl z (zP h)
theorem z26{B:Nat}(l:List Nat)(k:Nat):val B (l.take (k+1))=val B (l.take k)+B^k*dg l k:=by
 by_cases h:k<l.length
 ·have e:l[k]? = some l[k]:=zi h;rw[TR e,Zi e]
 ·rw[Yv (by omega),zN (by omega),zN (by omega)];simp
theorem z1t{B:Nat}(l:List Nat)(k:Nat):val B (l.drop k)=dg l k+B*val B (l.drop (k+1)):=by
 by_cases h:k<l.length
 ·have e:l[k]? = some l[k]:=zi h;rw[UB e,Zi e]
 ·rw[Yv (by omega),zt (by omega),zt (by omega)];simp[val]
theorem D1{B:Nat}{o:List Nat}{i c X s:Nat}(hl:o.length=i)(h:val B o+B^i*c=X):val B (o ++ [(c+s) % B])+B^(i+1)*((c+s) / B)=X+B^i*s:=by
 rw[z64,hl,<-h,yY];have e:=wL (c+s) B;have e2:=congrArg (B^i * ·) e;simp only[zy]at e2⊢;rw[zu];omega
theorem BI{B i c V:Nat}(_hB:0<B){o:List Nat}(h:val B o+B^i*c=V)(hV:V<B^i):c=0:=by
 rcases zj c with h0|h0
 ·exact h0
 ·have:B^i*1<=B^i*c:=yV _ h0;omega
theorem Cu{B:Nat}{o:List Nat}{i c X Y x y:Nat}(hl:o.length=i)(h:val B o+Y=X+B^i*c)(d c':Nat)(hd:x+B*c'=d+y+c) :
  val B (o ++ [d])+(Y+B^i*y)=(X+B^i*x)+B^(i+1)*c':=by
 rw[z64,hl,yY];have e2:=congrArg (B^i * ·) hd;simp only[zy]at e2⊢;rw[zu];omega
theorem He{V n q r d:Nat}(h:V=q*n+r):10*V+d=(10*q+(10*r+d) / n)*n+(10*r+d) % n:=by
 have e:=xr (10*r+d) n
 have e2:(10*q+(10*r+d) / n)*n=10*(q*n)+n*((10*r+d) / n):=by
  rw[y8,zu,zq n]
 omega
theorem Qs{B:Nat}(l:List Nat)(k z:Nat)(h:k<l.length):val B (l.set k z)+B^k*dg l k=val B l+B^k*z:=by
 induction l generalizing k with
 |nil=>simp at h
 |cons d r y=>
  cases k with
  |zero=>simp[val,dg];omega
  |succ k=>
   have y:=y k (by simpa using h);have e:=congrArg (B * ·) y;simp only[List.set_cons_succ,val,yY,zy]at e⊢;rw[show dg (d :: r) (k+1)=dg r k by simp[dg]];have e1:B^k*B*dg r k=B*(B^k*dg r k):=by rw[zq (B^k) B,zu]
   have e2:B^k*B*z=B*(B^k*z):=by rw[zq (B^k) B,zu]
   omega
theorem Mj{B:Nat}(hB:0<B){l:List Nat}{k:Nat}(h:val B l<B^k):∀j,k<=j->j<l.length->dg l j=0:=by
 induction l generalizing k with
 |nil=>intro j _ y;simp at y
 |cons d r ih=>
  intro j hk y
  cases k with
  |zero=>
   have J:val B (d :: r)=0:=by simpa using h
   simp only[val]at J
   cases j with
   |zero=>simp[dg];omega
   |succ j=>
    have:val B r=0:=by
     have D:B*val B r=0:=by omega
     rcases Nat.mul_eq_zero.1 D with z|z
     ·omega
     ·exact z
    have:=ih (k:=0) (by simpa using this) j (zL _) (by simpa using y);simpa[dg]using this
  |succ k=>
   cases j with
   |zero=>omega
   |succ j=>
    simp only[val,yY]at h
    have I:val B r<B^k:=by
     have:B*val B r<B*B^k:=by rw[zq B (B^k)];omega
     exact xw this
    have:=ih I j (by omega) (by simpa using y);simpa[dg]using this
theorem ST{B:Nat}(hB:2<=B){n m:Nat}(h:(Z4 B n).length<(Z4 B m).length):n<m:=by
 rcases xj n m with h1|h1
 ·exact h1
 ·exfalso
  have:(Z4 B m).length<=(Z4 B n).length:=YZ hB m _ (zh h1 (Xq hB n));omega
theorem Oh{B:Nat}{k:Nat}{l m:List Nat}(_hB:0<B)(hl:∀d∈l,d<B)(hx:dg l k<dg m k)(hk:k<l.length)(_hm:k<m.length)(ht:val B (l.drop (k+1))=val B (m.drop (k+1)))(hlen:l.length=m.length):val B l<val B m:=by
 have D:val B l=val B (l.take (k+1))+B^(k+1)*val B (l.drop (k+1)):=by
  conv=>lhs;rw[<-y_ (k+1) l]
  rw[z43,zD,xR (by omega)]
 have I:val B m=val B (m.take (k+1))+B^(k+1)*val B (m.drop (k+1)):=by
  conv=>lhs;rw[<-y_ (k+1) m]
  rw[z43,zD,xR (by omega)]
 rw[D,I,ht,z26,z26];have z:val B (l.take k)<B^(l.take k).length:=Y4 _ (λ d hd=>hl d (yU hd));rw[zD,xR (by omega)]at z;have y:B^k*(dg l k+1)<=B^k*dg m k:=yV _ hx;rw[zy]at y;omega
theorem Wm{B:Nat}{o xs ys:List Nat}{i c:Nat}(hl:o.length=i)(h:val B o+B^i*c=val B (xs.take i)+val B (ys.take i))(s:Nat)(hs:s=dg xs i+dg ys i) :
  val B (o ++ [(c+s) % B])+B^(i+1)*((c+s) / B)=val B (xs.take (i+1))+val B (ys.take (i+1)):=by
 subst hs;rw[D1 hl h,z26 xs,z26 ys,zy];omega
theorem K2{B:Nat}(hB:2<=B){o xs ys:List Nat}{c:Nat}(hx:∀z∈xs,z<B)(hy:∀z∈ys,z<B)(hle:ys.length<=xs.length)(h:val B o+B^(xs.length+1)*c=val B (xs.take (xs.length+1))+val B (ys.take (xs.length+1))):val B o=val B xs+val B ys:=by
 rw[zN (by omega),zN (by omega)]at h;have h1:=Y4 xs hx;have h2:=Y4 ys hy;have h3:B^ys.length<=B^xs.length:=zA (by omega) hle;have y:B^(xs.length+1)=B^xs.length*B:=yY _ _;have:c=0:=BI (by omega) h (by rw[y];generalize B^xs.length=P at *;have:P*2<=P*B:=yV _ hB;omega);subst this;simpa using h
theorem VH{B:Nat}{o xs ys:List Nat}{i c:Nat}(hl:o.length=i)(h:val B o+val B (ys.take i)=val B (xs.take i)+B^i*c)(d c':Nat)(hd:dg xs i+B*c'=d+dg ys i+c) :
  val B (o ++ [d])+val B (ys.take (i+1))=val B (xs.take (i+1))+B^(i+1)*c':=by
 rw[z26 xs,z26 ys];exact Cu hl h d c' hd
theorem Mr{B:Nat}{o:List Nat}{n m c L:Nat}(ho:∀z∈o,z<B)(hol:o.length=L)(hge:m<=n)(h:val B o+m=n+B^L*c):val B o=n-m:=by
 have h1:=Y4 o ho;rw[hol]at h1
 rcases zj c with h0|h0
 ·subst h0;omega
 ·have:B^L*1<=B^L*c:=yV _ h0;omega
end
section
def cmpE(f g:Int->Int):Nat->Int
 |0=>0
 |n+1=>if f (n+1:Nat)=g (n+1:Nat) then cmpE f g n else cmpI (f (n+1:Nat)) (g (n+1:Nat))
theorem Ps(x:Int):cmpI x x=0:=by simp[cmpI]
theorem z7u{x y:Int}:cmpI x y=0↔x=y:=by
 unfold cmpI
 split
 ·omega
 ·split<;>omega
theorem zfo(x y:Int):cmpI y x = - cmpI x y:=by
 unfold cmpI
 split
 ·split
  ·omega
  ·omega
 ·split<;>simp
theorem Wi{x y:Int}:cmpI x y=1↔y<x:=by
 unfold cmpI
 split
 ·omega
 ·split<;>omega
theorem WN{x y:Int}:cmpI x y = -1↔x<y:=by
 unfold cmpI
 split
 ·omega
 ·split<;>omega
theorem Uu(x y:Int):cmpI x y = -1∨cmpI x y=0∨cmpI x y=1:=by
 unfold cmpI
 split
 ·simp
 ·split<;>simp
theorem Bk(f g:Int->Int)(n:Nat):cmpE f g n = -1∨cmpE f g n=0∨cmpE f g n=1:=by
 induction n with
 |zero=>simp[cmpE]
 |succ n ih=>
  simp only[cmpE]
  split
  ·exact ih
  ·exact Uu _ _
theorem B8(f g:Int->Int)(n:Nat):cmpE g f n = - cmpE f g n:=by
 induction n with
 |zero=>simp[cmpE]
 |succ n ih=>
  simp only[cmpE]
  by_cases h:f ((n+1:Nat):Int)=g ((n+1:Nat):Int)
  ·rw[if_pos h,if_pos h.symm];exact ih
  ·rw[if_neg h,if_neg (λ e=>h e.symm)];exact zfo _ _
theorem KZ{f g:Int->Int}{n:Nat}:cmpE f g n=0↔∀k:Nat,1<=k->k<=n->f (k:Nat)=g (k:Nat):=by
 induction n with
 |zero=>
  simp only[cmpE,true_iff];intro k h1 y;omega
 |succ n ih=>
  simp only[cmpE]
  by_cases h:f ((n+1:Nat):Int)=g ((n+1:Nat):Int)
  ·rw[if_pos h,ih]
   constructor
   ·intro y k z I
    by_cases D:k=n+1
    ·subst D;exact h
    ·exact y k z (by omega)
   ·intro y k z I;exact y k z (by omega)
  ·rw[if_neg h,z7u]
   constructor
   ·intro e;exact absurd e h
   ·intro y;exact y (n+1) (by omega) (zR _)
theorem I8{f g k:Int->Int}{n:Nat}(h1:cmpE f g n=1)(h2:cmpE g k n=1):cmpE f k n=1:=by
 induction n with
 |zero=>simp[cmpE]at h1
 |succ n ih=>
  simp only[cmpE]at h1 h2⊢;generalize f ((n+1:Nat):Int)=a at *;generalize g ((n+1:Nat):Int)=b at *;generalize k ((n+1:Nat):Int)=c at *
  by_cases z:a=b
  ·subst z;rw[if_pos rfl]at h1
   by_cases y:a=c
   ·subst y;rw[if_pos rfl]at h2⊢;exact ih h1 h2
   ·rw[if_neg y]at h2⊢;exact h2
  ·rw[if_neg z]at h1;rw[Wi]at h1
   by_cases y:b=c
   ·subst y;rw[if_neg z,Wi];exact h1
   ·rw[if_neg y,Wi]at h2;rw[if_neg (by omega),Wi];omega
theorem Ye{last:Int}{m:Z7}(h:z0d last m=true){v:Int}(hv:v<=last):ex m v=0:=by
 induction m generalizing last with
 |nil=>rfl
 |cons x r ih=>
  simp only[z0d,zK,decide_eq_true_eq]at h;rw[ex,if_neg (by omega)];exact ih h.2 (by omega)
theorem Vg{last:Int}{m:Z7}(h:z0d last m=true){v:Int}(hv:200<v):ex m v=0:=by
 induction m generalizing last with
 |nil=>rfl
 |cons x r ih=>
  simp only[z0d,zK,decide_eq_true_eq]at h;rw[ex,if_neg (by omega)];exact ih h.2
theorem X6{last:Int}{m:Z7}(h:z0d last m=true)(v:Int):0<=ex m v/\ex m v<=10000:=by
 induction m generalizing last with
 |nil=>simp[ex]
 |cons x r ih=>
  simp only[z0d,zK,decide_eq_true_eq]at h;rw[ex]
  split
  ·omega
  ·exact ih h.2
theorem Oo{last:Int}{a b:Z7}(ha:z0d last a=true)(hb:z0d last b=true)(h:∀v,ex a v=ex b v):a=b:=by
 induction a generalizing b last with
 |nil=>
  cases b with
  |nil=>rfl
  |cons y b=>
   have:=h y.1;simp only[z0d,zK,decide_eq_true_eq]at hb;simp[ex]at this;omega
 |cons x a ih=>
  cases b with
  |nil=>
   have:=h x.1;simp only[z0d,zK,decide_eq_true_eq]at ha;simp[ex]at this;omega
  |cons y b=>
   simp only[z0d,zK,decide_eq_true_eq]at ha hb;have z:=h x.1;have I:=h y.1
   have e:x.1=y.1:=by
    rcases vJ x.1 y.1 with g|g|g
    ·rw[ex,if_pos rfl,ex,if_neg (by omega),Ye hb.2 (by omega)]at z;omega
    ·exact g
    ·rw[ex,if_neg (by omega),Ye ha.2 (by omega),ex,if_pos rfl]at I;omega
   have D:x.2=y.2:=by
    rw[ex,if_pos rfl,ex,if_pos e.symm]at z;exact z
   have:x=y:=Prod.ext e D;subst this
   congr 1
   refine ih ha.2 hb.2 (λ v=>?_);have:=h v;rw[ex,ex]at this
   split at this
   ·rename_i hv
    rw[Ye ha.2 (by omega),Ye hb.2 (by omega)]
   ·exact this
theorem Ld{a b:Z7}(ha:Z3 a=true)(hb:Z3 b=true)(h:∀k:Nat,1<=k->k<=200->ex a k=ex b k):a=b:=by
 refine Oo ha hb (λ v=>?_)
 by_cases z:v<=0
 ·rw[Ye ha z,Ye hb z]
 ·by_cases y:200<v
  ·rw[Vg ha y,Vg hb y]
  ·have:=h v.toNat (by omega) (by omega)
   rwa [wP (by omega)]at this
def cmpD(f g:Int->Int)(c:Int)(lo:Int):Nat->Int
 |0=>c
 |n+1=>if f (lo+(n+1:Nat))=g (lo+(n+1:Nat)) then cmpD f g c lo n else cmpI (f (lo+(n+1:Nat))) (g (lo+(n+1:Nat)))
theorem Tv{f g f' g':Int->Int}{c lo:Int}{n:Nat}(hf:∀v,lo<v->f v=f' v)(hg:∀v,lo<v->g v=g' v):cmpD f g c lo n=cmpD f' g' c lo n:=by
 induction n with
 |zero=>rfl
 |succ n ih=>
  simp only[cmpD];rw[hf _ (by omega),hg _ (by omega),ih]
theorem z5g(f g:Int->Int)(c lo:Int)(n:Nat):cmpD f g c lo (n+1)=cmpD f g (if f (lo+1)=g (lo+1) then c else cmpI (f (lo+1)) (g (lo+1))) (lo+1) n:=by
 induction n with
 |zero=>simp[cmpD]
 |succ n ih=>
  rw[cmpD,ih]
  conv=>rhs;rw[cmpD]
  rw[show lo+((n+1+1:Nat):Int)=lo+1+((n+1:Nat):Int) by omega]
theorem Up{f g:Int->Int}{c lo:Int}(k n:Nat)(h:∀v,lo<v->v<=lo+k->f v=g v):cmpD f g c lo (k+n)=cmpD f g c (lo+k) n:=by
 induction k generalizing lo with
 |zero=>simp
 |succ k ih=>
  rw[show k+1+n=(k+n)+1 by omega,z5g,if_pos (h _ (by omega) (by omega)),ih (λ v h1 h2=>h v (by omega) (by omega))];rw[show lo+1+(k:Int)=lo+((k+1:Nat):Int) by omega]
theorem N3{f g:Int->Int}{c lo:Int}(n:Nat)(h:∀v,lo<v->v<=lo+n->f v=g v):cmpD f g c lo n=c:=by
 have:=Up (f:=f) (g:=g) (c:=c) (lo:=lo) n 0 h;simpa[cmpD]using this
theorem Ej(f g:Int->Int)(n:Nat):cmpD f g 0 0 n=cmpE f g n:=by
 induction n with
 |zero=>rfl
 |succ n ih=>
  simp only[cmpD,cmpE,wY,ih]
theorem F9{last:Int}{b:Z7}(hb:z0d last b=true)(hl:last<=200)(c:Int):cmpL (both [] b) c=cmpD (λ _=>0) (ex b) c last (200-last).toNat:=by
 induction b generalizing last c with
 |nil=>rw[z9v];exact(N3 _ (λ v _ _=>rfl)).symm
 |cons y b ih=>
  simp only[z0d,zK,decide_eq_true_eq]at hb;obtain⟨⟨h1,h2,h3,h4⟩,hb⟩:=hb;rw[z8n,cmpL,ih hb (by omega)];simp only;have e:(200-last).toNat=(y.1-1-last).toNat+((200-y.1).toNat+1):=by omega
  rw[e,Up _ _ (λ v g1 g2=>by
   rw[ex,if_neg (by omega),Ye hb (by omega)]),z5g]
  rw[show last+((y.1-1-last).toNat:Int)+1=y.1 by omega,ex,if_pos rfl];refine Tv (λ _ _=>rfl) (λ v hv=>?_);rw[ex,if_neg (by omega)]
theorem KR{last:Int}{a:Z7}(ha:z0d last a=true)(hl:last<=200)(c:Int):cmpL (both a []) c=cmpD (ex a) (λ _=>0) c last (200-last).toNat:=by
 induction a generalizing last c with
 |nil=>rw[z9v];exact(N3 _ (λ v _ _=>rfl)).symm
 |cons y b ih=>
  simp only[z0d,zK,decide_eq_true_eq]at ha;obtain⟨⟨h1,h2,h3,h4⟩,hb⟩:=ha;rw[z7s,cmpL,ih hb (by omega)];simp only;have e:(200-last).toNat=(y.1-1-last).toNat+((200-y.1).toNat+1):=by omega
  rw[e,Up _ _ (λ v g1 g2=>by
   rw[ex,if_neg (by omega),Ye hb (by omega)]),z5g]
  rw[show last+((y.1-1-last).toNat:Int)+1=y.1 by omega,ex,if_pos rfl];refine Tv (λ v hv=>?_) (λ _ _=>rfl);rw[ex,if_neg (by omega)]
theorem JZ{last:Int}{a b:Z7}(ha:z0d last a=true)(hb:z0d last b=true)(hl:last<=200)(c:Int):cmpL (both a b) c=cmpD (ex a) (ex b) c last (200-last).toNat:=by
 generalize hn:a.length+b.length=n
 induction n using Nat.strongRecOn generalizing a b last c with
 |ind n ih=>
 cases a with
 |nil=>exact F9 hb hl c
 |cons x a=>
  cases b with
  |nil=>exact KR ha hl c
  |cons y b=>
   have hA:=ha;have hB:=hb;simp only[z0d,zK,decide_eq_true_eq]at ha hb;obtain⟨⟨a1,J,Z,X⟩,ha⟩:=ha;obtain⟨⟨b1,K,O,U⟩,hb⟩:=hb;simp only[zM]at hn;rw[Sf]
   split
   ·rename_i hlt
    have z:z0d x.1 (y :: b)=true:=by simp only[z0d,zK,decide_eq_true_eq];exact⟨⟨hlt,K,O,U⟩,hb⟩
    rw[cmpL,ih _ (by simp only[zM];omega) ha z (by omega) _ rfl];have e:(200-last).toNat=(x.1-1-last).toNat+((200-x.1).toNat+1):=by omega
    rw[e,Up _ _ (λ v g1 g2=>by
     rw[ex,if_neg (by omega),Ye ha (by omega),Ye z (by omega)]),z5g]
    rw[show last+((x.1-1-last).toNat:Int)+1=x.1 by omega];rw[show ex (x :: a) x.1=x.2 by rw[ex,if_pos rfl],Ye z (yi _)];refine Tv (λ v hv=>?_) (λ v hv=>rfl);rw[ex,if_neg (by omega)]
   ·split
    ·rename_i hnlt hlt
     have D:z0d y.1 (x :: a)=true:=by simp only[z0d,zK,decide_eq_true_eq];exact⟨⟨hlt,J,Z,X⟩,ha⟩
     rw[cmpL,ih _ (by simp only[zM];omega) D hb (by omega) _ rfl];have e:(200-last).toNat=(y.1-1-last).toNat+((200-y.1).toNat+1):=by omega
     rw[e,Up _ _ (λ v g1 g2=>by
      rw[Ye D (by omega),ex,if_neg (by omega),Ye hb (by omega)]),z5g]
     rw[show last+((y.1-1-last).toNat:Int)+1=y.1 by omega];rw[show ex (y :: b) y.1=y.2 by rw[ex,if_pos rfl],Ye D (yi _)];refine Tv (λ v hv=>rfl) (λ v hv=>?_);rw[ex,if_neg (by omega)]
    ·rename_i h1 h2
     have I:x.1=y.1:=by omega
     rw[I]at ha;rw[cmpL,ih _ (by omega) ha hb (by omega) _ rfl];have e:(200-last).toNat=(y.1-1-last).toNat+((200-y.1).toNat+1):=by omega
     rw[e,Up _ _ (λ v g1 g2=>by
      rw[ex,if_neg (by omega),Ye ha (by omega),ex,if_neg (by omega),Ye hb (by omega)]),z5g]
     rw[show last+((y.1-1-last).toNat:Int)+1=y.1 by omega];rw[show ex (x :: a) y.1=x.2 by rw[ex,if_pos I],show ex (y :: b) y.1=y.2 by rw[ex,if_pos rfl]]
     refine Tv (λ v hv=>?_) (λ v hv=>?_)
     ·rw[ex,if_neg (by omega)]
     ·rw[ex,if_neg (by omega)]
theorem V_{a b:Z7}(ha:Z3 a=true)(hb:Z3 b=true):Zs a b=cmpE (ex a) (ex b) 200:=by
 unfold Zs;rw[JZ ha hb (by omega),<-Ej];rfl
theorem VQ{a b:Z7}(ha:Z3 a=true)(hb:Z3 b=true):Zs a b = -1∨Zs a b=0∨Zs a b=1:=by
 rw[V_ ha hb];exact Bk _ _ _
theorem QV{a b:Z7}(ha:Z3 a=true)(hb:Z3 b=true):Zs b a = - Zs a b:=by
 rw[V_ ha hb,V_ hb ha];exact B8 _ _ _
theorem Vh{a b:Z7}(ha:Z3 a=true)(hb:Z3 b=true):Zs a b=0↔a=b:=by
 rw[V_ ha hb,KZ]
 constructor
 ·intro h;exact Ld ha hb (λ k h1 h2=>h k h1 h2)
 ·rintro rfl;intro _ _ _;rfl
theorem RR{a b c:Z7}(ha:Z3 a=true)(hb:Z3 b=true)(hc:Z3 c=true)(h1:Zs a b=1)(h2:Zs b c=1):Zs a c=1:=by
 rw[V_ ha hb]at h1;rw[V_ hb hc]at h2;rw[V_ ha hc];exact I8 h1 h2
end
section
abbrev PZ:=List (Int×Z7)
def cf:PZ->Z7->Int
 | [],_=>0
 |t :: r,m=>(if t.2=m then t.1 else 0)+cf r m
theorem zhk(p q:PZ)(m:Z7):cf (p++q) m=cf p m+cf q m:=by
 induction p with
 |nil=>simp[cf]
 |cons t r ih=>simp only[zc,cf,ih];omega
theorem zpx{p:PZ}{m:Z7}(h:∀t∈p,t.2≠m):cf p m=0:=by
 induction p with
 |nil=>rfl
 |cons t r ih=>
  rw[cf,if_neg (h t (by simp)),ih (λ u hu=>h u (by simp[hu]))];rfl
theorem Fo{p q:PZ}(h:p.Perm q)(m:Z7):cf p m=cf q m:=by
 induction h with
 |nil=>rfl
 |cons _ _ ih=>simp only[cf,ih]
 |swap _ _ _=>simp only[cf];omega
 |trans _ _ h1 h2=>exact h1.trans h2
def ZD(p:PZ):Prop:=∀t∈p,Z3 t.2=true
def canP(p:PZ):Prop:=(∀t∈p,t.1≠0/\Z3 t.2=true)/\p.Pairwise (λ a b=>Zs a.2 b.2=1)
theorem canP.may{p:PZ}(h:canP p):ZD p:=λ t ht=>(h.1 t ht).2
theorem z3a:canP []:=⟨λ t ht=>by simp at ht,List.Pairwise.nil⟩
theorem canP.tail{t:Int×Z7}{p:PZ}(h:canP (t :: p)):canP p:=⟨λ u hu=>h.1 u (by simp[hu]),(yN.1 h.2).2⟩
theorem canP.head{t:Int×Z7}{p:PZ}(h:canP (t :: p)):∀u∈p,Zs t.2 u.2=1:=(yN.1 h.2).1
theorem TQ(m:Z7)(h:Z3 m=true):Zs m m=0:=(Vh h h).2 rfl
theorem canP.cf_head{t:Int×Z7}{p:PZ}(h:canP (t :: p)):cf (t :: p) t.2=t.1:=by
 rw[cf,if_pos rfl,zpx,u_];intro u hu e;have h1:=h.head u hu;rw[e,TQ _ (h.1 t (by simp)).2]at h1;omega
theorem canP.cf_mem{p:PZ}(h:canP p){t:Int×Z7}(ht:t∈p):cf p t.2=t.1:=by
 induction p with
 |nil=>simp at ht
 |cons u r ih=>
  rcases zJ.1 ht with rfl|ht
  ·exact h.cf_head
  ·rw[cf,if_neg,ih h.tail ht]
   ·omega
   ·intro e;have y:=h.head t ht;rw[e,TQ _ (h.1 t (by simp[ht])).2]at y;omega
theorem canP.mem_of_cf{p:PZ}{m:Z7}(hc:cf p m≠0):∃t∈p,t.2=m:=by
 by_cases h:∃t∈p,t.2=m
 ·exact h
 ·exact absurd (zpx (λ t ht e=>h ⟨t,ht,e⟩)) hc
theorem Qo{p q:PZ}(hp:canP p)(hq:canP q)(h:∀m,Z3 m=true->cf p m=cf q m):p=q:=by
 induction p generalizing q with
 |nil=>
  cases q with
  |nil=>rfl
  |cons u q=>
   have:=h u.2 (hq.1 u (by simp)).2;rw[hq.cf_head]at this;exact absurd this.symm (hq.1 u (by simp)).1
 |cons t p ih=>
  cases q with
  |nil=>
   have:=h t.2 (hp.1 t (by simp)).2;rw[hp.cf_head]at this;exact absurd this (hp.1 t (by simp)).1
  |cons u q=>
   have I:=hp.1 t (by simp);have D:=hq.1 u (by simp);have K:=h t.2 I.2;have J:=h u.2 D.2;rw[hp.cf_head]at K;rw[hq.cf_head]at J
   have e:t.2=u.2:=by
    rcases VQ I.2 D.2 with g|g|g
    ·exfalso
     obtain⟨s,z,y⟩:=canP.mem_of_cf (p:=t :: p) (m:=u.2) (by rw[J];exact D.1)
     rcases zJ.1 z with rfl|z
     ·rw[y,TQ _ D.2]at g;omega
     ·have:=hp.head s z;rw[y]at this;omega
    ·exact(Vh I.2 D.2).1 g
    ·exfalso
     obtain⟨s,z,y⟩:=canP.mem_of_cf (p:=u :: q) (m:=t.2) (by rw[<-K];exact I.1)
     rcases zJ.1 z with rfl|z
     ·rw[y,TQ _ I.2]at g;omega
     ·have:=hq.head s z;rw[y,QV I.2 D.2]at this;omega
   have O:t.1=u.1:=by
    have:=hq.cf_head;rw[<-e]at this;omega
   have:t=u:=Prod.ext O e;subst this
   congr 1
   refine ih hp.tail hq.tail (λ m hm=>?_);have:=h m hm;simp only[cf]at this;omega
def putP:PZ->Int->Z7->PZ
 | [],c,m=>if c=0 then [] else [(c,m)]
 |t :: r,c,m=>if Zs t.2 m=1 then t :: putP r c m else if Zs t.2 m=0 then(if c+t.1=0 then r else(c+t.1,m) :: r) else if c=0 then t :: r else(c,m) :: t :: r
theorem O7{p:PZ}{c:Int}{m:Z7}{t:Int×Z7}(h:t∈putP p c m):t∈p∨t.2=m:=by
 induction p with
 |nil=>
  simp only[putP]at h
  split at h
  ·simp at h
  ·right;rw[zQ.1 h]
 |cons u r ih=>
  simp only[putP]at h
  split at h
  ·rcases zJ.1 h with rfl|h
   ·simp
   ·rcases ih h with h|h
    ·simp[h]
    ·exact .inr h
  ·split at h
   ·split at h
    ·simp[h]
    ·rcases zJ.1 h with rfl|h
     ·exact .inr rfl
     ·simp[h]
   ·split at h
    ·exact .inl h
    ·rcases zJ.1 h with rfl|h
     ·exact .inr rfl
     ·exact .inl h
theorem Iq{p:PZ}(hp:canP p)(c:Int){m:Z7}(hm:Z3 m=true):canP (putP p c m)/\∀m',cf (putP p c m) m'=cf p m'+if m=m' then c else 0:=by
 induction p with
 |nil=>
  simp only[putP]
  split
  ·rename_i h0
   subst h0;exact⟨z3a,λ m'=>by simp[cf]⟩
  ·rename_i h0
   exact⟨⟨λ t z=>by rw[zQ.1 z];exact⟨h0,hm⟩,yP _ _⟩,λ m'=>by simp[cf]⟩
 |cons t r ih=>
  obtain⟨I,J⟩:=ih hp.tail;have z:=hp.1 t (by simp);simp only[putP]
  split
  ·rename_i h1
   refine⟨⟨λ u y=>?_,yN.2 ⟨λ u y=>?_,I.2⟩⟩,λ m'=>?_⟩
   ·rcases zJ.1 y with rfl|y
    ·exact z
    ·exact I.1 u y
   ·rcases O7 y with y|y
    ·exact hp.head u y
    ·rw[y];exact h1
   ·simp only[cf,J];omega
  ·rename_i h1
   split
   ·rename_i h2
    have e:=(Vh z.2 hm).1 h2
    split
    ·rename_i D
     refine⟨hp.tail,λ m'=>?_⟩;simp only[cf,e]
     split<;>omega
    ·rename_i D
     refine⟨⟨λ u y=>?_,yN.2 ⟨λ u y=>?_,hp.tail.2⟩⟩,λ m'=>?_⟩
     ·rcases zJ.1 y with rfl|y
      ·exact⟨D,hm⟩
      ·exact hp.tail.1 u y
     ·have:=hp.head u y;rw[e]at this;exact this
     ·simp only[cf,e]
      split<;>omega
   ·rename_i h2
    have D:Zs m t.2=1:=by
     have:=QV z.2 hm;rcases VQ z.2 hm with g|g|g<;>omega
    split
    ·rename_i h4
     subst h4;exact⟨hp,λ m'=>by split<;>omega⟩
    ·rename_i h4
     refine⟨⟨λ u y=>?_,yN.2 ⟨λ u y=>?_,hp.2⟩⟩,λ m'=>?_⟩
     ·rcases zJ.1 y with rfl|y
      ·exact⟨h4,hm⟩
      ·exact hp.1 u y
     ·rcases zJ.1 y with rfl|y
      ·exact D
      ·exact RR hm z.2 (hp.1 u (by simp[y])).2 D (hp.head u y)
     ·simp only[cf];omega
def addP(p l:PZ):PZ:=l.foldl (λ p t=>putP p t.1 t.2) p
def Zr(l:PZ):PZ:=addP [] l
theorem RM{p:PZ}(hp:canP p){l:PZ}(hl:ZD l):canP (addP p l)/\∀m,cf (addP p l) m=cf p m+cf l m:=by
 induction l generalizing p with
 |nil=>exact⟨hp,λ m=>by simp[addP,cf]⟩
 |cons t r ih=>
  obtain⟨D,z⟩:=Iq hp t.1 (hl t (by simp));obtain⟨I,y⟩:=ih D (λ u hu=>hl u (by simp[hu]));refine⟨I,λ m=>?_⟩;show cf (addP (putP p t.1 t.2) r) m=_;rw[y,z];simp only[cf];omega
theorem SR{l:PZ}(hl:ZD l):canP (Zr l):=(RM z3a hl).1
theorem Rh{l:PZ}(hl:ZD l)(m:Z7):cf (Zr l) m=cf l m:=by
 have:=(RM z3a hl).2 m;simp only[cf]at this;unfold Zr;omega
theorem Sk{p:PZ}(h:canP p):Zr p=p:=Qo (SR h.may) h (λ m _=>Rh h.may m)
end
section
def degP(p:PZ)(v:Int):Int:=p.foldl (λ d t=>max d (ex t.2 v)) 0
def Tf(p:PZ):Int:=p.foldl (λ c t=>max c (z1l t.2)) 0
def ZL:PZ->Int
 | []=>0
 |t :: _=>z1l t.2
theorem z5q(x y:Int×Int)(r:Z7):z1l (x :: y :: r)=z1l (y :: r):=by
 simp[z1l,List.getLast?_cons_cons]
theorem Vz{last:Int}{m:Z7}(h:z0d last m=true)(hne:m≠[]):last<z1l m/\z1l m<=200/\1<=ex m (z1l m):=by
 induction m generalizing last with
 |nil=>exact absurd rfl hne
 |cons x r ih=>
  simp only[z0d,zK,decide_eq_true_eq]at h
  cases r with
  |nil=>
   have e:z1l [x]=x.1:=rfl;rw[e,ex,if_pos rfl];omega
  |cons y r=>
   have:=ih h.2 (by simp);rw[z5q,ex,if_neg (by omega)];omega
theorem SD{last:Int}{m:Z7}(h:z0d last m=true){v:Int}(hv:z1l m<v)(hl:last<v):ex m v=0:=by
 induction m generalizing last with
 |nil=>rfl
 |cons x r ih=>
  simp only[z0d,zK,decide_eq_true_eq]at h
  cases r with
  |nil=>
   have e:z1l [x]=x.1:=rfl;rw[e]at hv;rw[ex,if_neg (by omega)];rfl
  |cons y r=>
   rw[z5q]at hv;have:=Vz h.2 (by simp);rw[ex,if_neg (by omega)];exact ih h.2 hv (by omega)
theorem Sm{m:Z7}(h:Z3 m=true):0<=z1l m/\z1l m<=200:=by
 by_cases hne:m=[]
 ·subst hne;simp[z1l]
 ·have:=Vz h hne;omega
theorem KA{f g:Int->Int}{n k:Nat}(hk:1<=k)(hkn:k<=n)(hab:∀j:Nat,k<j->j<=n->f j=g j)(hlt:f (k:Nat)<g (k:Nat)):cmpE f g n = -1:=by
 induction n with
 |zero=>omega
 |succ n ih=>
  simp only[cmpE]
  by_cases h:k=n+1
  ·subst h;rw[if_neg (by omega),WN];exact hlt
  ·rw[if_pos (hab (n+1) (by omega) (zR _))];exact ih (by omega) (λ j h1 h2=>hab j h1 (by omega))
theorem N9{a b:Z7}(ha:Z3 a=true)(hb:Z3 b=true)(h:Zs a b=1):z1l b<=z1l a:=by
 rcases wX (z1l a) (z1l b) with D|y
 ·exfalso
  have hra:=Sm ha
  have z:b≠[]:=λ e=>by
   rw[e]at D;have:z1l ([]:Z7)=0:=rfl;omega
  obtain⟨h1,h2,h3⟩:=Vz hb z;rw[V_ ha hb]at h
  have:cmpE (ex a) (ex b) 200 = -1:=by
   refine KA (k:=(z1l b).toNat) (by omega) (by omega) (λ j h4 h5=>?_) ?_
   ·rw[SD ha (v:=(j:Int)) (by omega) (by omega),SD hb (v:=(j:Int)) (by omega) (by omega)]
   ·rw[show(((z1l b).toNat:Nat):Int)=z1l b by omega,SD ha (v:=z1l b) (by omega) (by omega)];omega
  omega
 ·exact y
theorem PT{α:Type}(f:α->Int)(l:List α)(c:Int):c<=l.foldl (λ d t=>max d (f t)) c:=by
 induction l generalizing c with
 |nil=>simp
 |cons x r ih=>
  rw[wJ];exact Int.le_trans (by omega) (ih _)
theorem Qd{α:Type}(f:α->Int)(l:List α)(c:Int):∀t∈l,f t<=l.foldl (λ d t=>max d (f t)) c:=by
 induction l generalizing c with
 |nil=>intro t y;simp at y
 |cons x r ih=>
  intro t y;rw[wJ]
  rcases zJ.1 y with rfl|y
  ·exact Int.le_trans (by omega) (PT f r _)
  ·exact ih _ t y
theorem QQ{α:Type}(f:α->Int)(l:List α)(c u:Int)(hc:c<=u)(h:∀t∈l,f t<=u):l.foldl (λ d t=>max d (f t)) c<=u:=by
 induction l generalizing c with
 |nil=>simpa using hc
 |cons x r ih=>
  rw[wJ];exact ih _ (by have:=h x (by simp);omega) (λ t ht=>h t (by simp[ht]))
theorem Gs{p:PZ}(h:canP p):Tf p=ZL p:=by
 cases p with
 |nil=>rfl
 |cons t r=>
  unfold Tf ZL
  apply vV
  ·refine QQ _ _ _ _ ?_ (λ u y=>?_)
   ·exact(Sm (h.1 t (by simp)).2).1
   ·rcases zJ.1 y with rfl|y
    ·exact yi _
    ·exact N9 (h.1 t (by simp)).2 (h.1 u (by simp[y])).2 (h.head u y)
  ·exact Qd (λ t:Int×Z7=>z1l t.2) (t :: r) 0 t (by simp)
theorem VK{p:PZ}(h:canP p):0<=ZL p/\ZL p<=200:=by
 cases p with
 |nil=>simp[ZL]
 |cons t r=>exact Sm (h.1 t (by simp)).2
theorem XW{p:PZ}(h:ZD p)(v:Int):0<=degP p v/\degP p v<=10000 :=
 ⟨PT _ _ _,QQ _ _ _ _ (by omega) (λ t ht=>(X6 (h t ht) v).2)⟩
theorem WZ{p:PZ}{t:Int×Z7}(ht:t∈p)(v:Int):ex t.2 v<=degP p v:=Qd (λ t:Int×Z7=>ex t.2 v) p 0 t ht
end
section
abbrev Z9:Nat:=4294967296
theorem ZU:2<=Z9:=by decide
def Z6(r:RInt):Int:=if r.neg then -(val Z9 r.mag:Int) else(val Z9 r.mag:Int)
def Z8(z:Int):RInt:=⟨decide (z<0),Z4 Z9 z.natAbs⟩
def Rr(r:RInt):Prop:=∀z∈r.mag,z<Z9
def YK(r:RInt):Bool:=match r.mag.getLast? with
 |none=>!r.neg
 |some z=>decide (z≠0)
def Zx(z:Int):Int:=cmpI z 0
theorem z09(z:Int):Z6 (Z8 z)=z:=by
 unfold Z6 Z8;simp only;rw[ZB ZU]
 by_cases h:z<0
 ·simp[h];omega
 ·simp[h];omega
theorem DB{r:RInt}(h:YK r=true):r.mag.getLast?≠some 0:=by
 unfold YK at h;intro e;rw[e]at h;simp at h
theorem Gb{r:RInt}(hok:Rr r)(h:YK r=true):Z8 (Z6 r)=r:=by
 have I:=DB h;have y:=BG ZU r.mag hok I;obtain⟨ng,D⟩:=r;simp only at I y;unfold YK at h;simp only at h;unfold Z8 Z6;simp only
 cases ng with
 |false=>
  simp[y]
 |true=>
  have hpos:0<val Z9 D:=by
   rcases zj (val Z9 D) with z|z
   ·exfalso
    rw[z,z3v]at y;rw[<-y]at h;simp at h
   ·exact z
  simp[y];omega
theorem LT(z:Int):YK (Z8 z)=true:=by
 unfold YK Z8;simp only
 cases h:(Z4 Z9 z.natAbs).getLast? with
 |none=>
  have y:Z4 Z9 z.natAbs=[]:=List.getLast?_eq_none_iff.1 h;rw[WG ZU]at y;simp;omega
 |some x=>
  simp;intro e;subst e;exact Rc ZU _ h
def toP(ts:List RTerm):PZ:=ts.map λ t=>(Z6 t.c,t.m)
def Z5(p:PZ):List RTerm:=p.map λ t=>⟨Z8 t.1,t.2⟩
def okT(ts:List RTerm):Prop:=∀t∈ts,Rr t.c
theorem z53(p:PZ):toP (Z5 p)=p:=by
 induction p with
 |nil=>rfl
 |cons t r ih=>
  have e:toP (Z5 (t :: r))=(Z6 (Z8 t.1),t.2) :: toP (Z5 r):=rfl;rw[e,ih,z09]
def z2s(t:RTerm):Bool:=decide (val Z9 t.c.mag≠0) && YK t.c && Z3 t.m
def z5r:Option RTerm->List RTerm->Bool
 |_,[]=>true
 |last,t :: r=>z2s t && (match last with|none=>true|some u=>decide (0<XF u.m t.m)) && z5r (some t) r
def ZR(ts:List RTerm):Bool:=z5r none ts
theorem RY{last:Option RTerm}{ts:List RTerm}(h:z5r last ts=true) :
  (∀t∈ts,z2s t=true)/\(ts.Pairwise λ a b=>Zs a.m b.m=1)/\∀u,last=some u->Z3 u.m=true->∀t∈ts,Zs u.m t.m=1:=by
 induction ts generalizing last with
 |nil=>exact⟨λ t ht=>by simp at ht,List.Pairwise.nil,λ u _ _ t ht=>by simp at ht⟩
 |cons t r ih=>
  simp only[z5r,zK]at h;obtain⟨⟨J,I⟩,Z⟩:=h;obtain⟨O,i2,U⟩:=ih Z
  have z:Z3 t.m=true:=by
   simp only[z2s,zK]at J;exact J.2
  have K:∀u∈r,Z3 u.m=true:=λ u y=>by
   have:=O u y;simp only[z2s,zK]at this;exact this.2
  refine⟨λ u y=>?_,yN.2 ⟨λ u y=>U t rfl z u y,i2⟩,λ u y hum s D=>?_⟩
  ·rcases zJ.1 y with rfl|y
   ·exact J
   ·exact O u y
  ·subst y;simp only[decide_eq_true_eq]at I;unfold XF at I;rw[hum,z]at I;simp only[Bool.and_self,if_true]at I;have X:Zs u.m t.m=1:=by rcases VQ hum z with g|g|g<;>omega
   rcases zJ.1 D with rfl|D
   ·exact X
   ·exact RR hum z (K s D) X (U t rfl z s D)
theorem Hi{ts:List RTerm}(h:ZR ts=true):canP (toP ts):=by
 obtain⟨D,z,_⟩:=RY h
 refine⟨λ t ht=>?_,?_⟩
 ·obtain⟨u,y,rfl⟩:=zG.1 ht;have:=D u y;simp only[z2s,zK,decide_eq_true_eq]at this;refine⟨?_,this.2⟩;unfold Z6;simp only
  split<;>omega
 ·unfold toP;rw[xL];exact z
theorem EM{ts:List RTerm}(hok:okT ts)(h:ZR ts=true):Z5 (toP ts)=ts:=by
 have z:=(RY h).1;clear h
 induction ts with
 |nil=>rfl
 |cons t r ih=>
  have y:=z t (by simp);simp only[z2s,zK]at y;have e:Z5 (toP (t :: r))=⟨Z8 (Z6 t.c),t.m⟩ :: Z5 (toP r):=rfl;rw[e,ih (λ u hu=>hok u (by simp[hu])) (λ u hu=>z u (by simp[hu])),Gb (hok t (by simp)) y.1.2]
theorem Jy{last:Option RTerm}{ts:List RTerm}(h1:∀t∈ts,z2s t=true)(h2:ts.Pairwise λ a b=>Zs a.m b.m=1)(h3:∀u,last=some u->Z3 u.m=true/\∀t∈ts,Zs u.m t.m=1):z5r last ts=true:=by
 induction ts generalizing last with
 |nil=>rfl
 |cons t r ih=>
  simp only[z5r,zK];have z:=h1 t (by simp)
  have y:Z3 t.m=true:=by
   have:=z;simp only[z2s,zK]at this;exact this.2
  refine⟨⟨z,?_⟩,ih (λ u hu=>h1 u (by simp[hu])) (yN.1 h2).2 (λ u hu=>?_)⟩
  ·cases last with
   |none=>rfl
   |some u=>
    obtain⟨D,I⟩:=h3 u rfl;have:=I t (by simp);simp only[decide_eq_true_eq];unfold XF;simp[D,y,this]
  ·obtain rfl:t=u:=by simpa using hu
   exact⟨y,(yN.1 h2).1⟩
theorem Xc{p:PZ}(h:canP p):ZR (Z5 p)=true:=by
 refine Jy (λ t ht=>?_) ?_ (λ u y=>by simp at y)
 ·obtain⟨u,y,rfl⟩:=zG.1 ht;have:=h.1 u y;simp only[z2s,zK,decide_eq_true_eq];refine⟨⟨?_,LT _⟩,this.2⟩;unfold Z8;simp only;rw[ZB ZU];omega
 ·unfold Z5;rw[xL];exact h.2
def z3b(ts:List RTerm):List RTerm:=if ZR ts then ts else []
def Zt(ts:List RTerm):PZ:=if ZR ts then toP ts else []
theorem UL(ts:List RTerm):canP (Zt ts):=by
 unfold Zt
 split
 ·exact Hi (by assumption)
 ·exact z3a
theorem TL(ts:List RTerm):toP (z3b ts)=Zt ts:=by
 unfold z3b Zt
 split<;>rfl
end
section
open Go.RowKit
abbrev New(w w':World):Nat->Prop:=λ k=>w.heap.size<=k/\k<w'.heap.size
theorem Tryz.infoU32:(Tryz.prog.info? 75).map (λ i=>(i.zero,i.size,i.bytes))=some (some (.int .u32 0),1,4):=by kernel_rfl
abbrev uC:=@Tryz.infoU32
section
variable {S S':Nat->Prop} {w w':World} {v:Value}
theorem U32s.len_le{zs:List Nat}(h:U32s S w v zs):zs.length<=9223372036854775807:=by
 obtain⟨b,off,⟨a,cap,h1,h2,h3,_⟩,_⟩:=h;unfold maxLen at h3;omega
theorem U32s.lt{zs:List Nat}(h:U32s S w v zs):∀z∈zs,z<Z9:=by
 obtain⟨b,off,hs,hc⟩:=h;intro z hz;obtain⟨j,hj⟩:=yp hz;exact(hc j z hj).1
theorem U32s.at{zs:List Nat}{k z:Nat}(h:U32s S w v zs)(hz:zs[k]? = some z) :
  ∃b off cap,v=.slice (some ⟨b,off,none⟩) zs.length cap/\zs.length<=cap/\cap<=9223372036854775807/\z<4294967296/\w.cell? ⟨b,off+k,none⟩=some (.int .u32 (z:Nat)):=by
 obtain⟨b,off,⟨a,cap,rfl,h2,h3,h4,h5⟩,hc⟩:=h;obtain rfl:=h4 (by have:=Zy hz;omega);exact⟨b,off,cap,rfl,h2,h3,hc k z hz⟩
theorem U32s.cellAt{zs:List Nat}{a:Option Addr}{n cap k z:Nat}(h:U32s S w (.slice a n cap) zs)(hz:zs[k]? = some z) :
  ∃b off,a=some ⟨b,off,none⟩/\n=zs.length/\n<=cap/\cap<=9223372036854775807/\S b/\z<4294967296/\w.cell? ⟨b,off+k,none⟩=some (.int .u32 (z:Nat)):=by
 obtain⟨b,off,⟨a',y,O,K,I,X,U⟩,J⟩:=h;obtain⟨rfl,rfl,rfl⟩:a=a'/\n=zs.length/\cap=y:=by simpa using O
 have D:0<zs.length:=by have:=Zy hz;omega
 exact⟨b,off,X D,rfl,K,I,U D,J k z hz⟩
theorem U32s.take{zs:List Nat}{a:Option Addr}{n cap k:Nat}(h:U32s S w (.slice a n cap) zs)(hk:k<=n):U32s S w (.slice a k cap) (zs.take k):=by
 obtain⟨b,off,⟨a',y,K,h2,I,U,O⟩,J⟩:=h;obtain⟨rfl,rfl,rfl⟩:a=a'/\n=zs.length/\cap=y:=by simpa using K
 have D:(zs.take k).length=k:=by rw[zD];omega
 refine⟨b,off,⟨a,cap,by rw[D],by omega,I,λ h=>U (by omega),λ h=>O (by omega)⟩,λ j z hz=>J j z ?_⟩;rw[w_]at hz
 split at hz
 ·exact hz
 ·simp at hz
theorem U32s.nilv(S:Nat->Prop)(w:World)(a:Option Addr)(cap:Nat)(h:cap<=9223372036854775807):U32s S w (.slice a 0 cap) [] :=
 ⟨0,0,⟨a,cap,rfl,zL _,by unfold maxLen;omega,λ h=>absurd h (yQ _),λ h=>absurd h (yQ _)⟩,λ j x hx=>by simp at hx⟩
abbrev ul:=@U32s.nilv
def rowU(o:List Nat):Nat->Value:=λ j=>.int .u32 (dg o j:Nat)
theorem WX{T:TypeId}{n g:Nat}{o:List Nat}(h:w.rowIs g T n (rowU o))(z:Nat):(w.setCell ⟨g,o.length,none⟩ (.int .u32 (z:Nat))).rowIs g T n (rowU (o ++ [z])):=by
 refine(h.set o.length (.int .u32 (z:Nat))).congr (λ i hi=>?_);unfold rowU dg
 by_cases e:i=o.length
 ·subst e;simp
 ·rw[if_neg e]
  by_cases y:i<o.length
  ·rw[yc y]
  ·rw[xE (by omega),xE (by simp;omega)]
theorem Vq{T:TypeId}{n g:Nat}{o:List Nat}(h:w.rowIs g T n (rowU o))(k z:Nat)(hk:k<o.length):(w.setCell ⟨g,k,none⟩ (.int .u32 (z:Nat))).rowIs g T n (rowU (o.set k z)):=by
 refine(h.set k (.int .u32 (z:Nat))).congr (λ i hi=>?_);unfold rowU dg;rw[xV]
 by_cases e:i=k
 ·subst e;simp[hk]
 ·rw[if_neg e,if_neg (λ h=>e h.symm)]
theorem Qf(w:World)(n:Nat)(T:TypeId):(w.alloc (.cells (madeCells #[.int .u32 0] n) T)).rowIs w.heap.size T n (rowU []) :=
 (World.rowIs_made w (.int .u32 0) n T).congr (λ i _=>by simp[rowU,dg])
theorem Tc(w:World)(n:Nat)(T:TypeId):(w.alloc (.cells (madeCells #[.int .u32 0] n) T)).rowIs w.heap.size T n (rowU (List.replicate n 0)) :=
 (World.rowIs_made w (.int .u32 0) n T).congr (λ i hi=>by simp[rowU,dg,hi])
def YI(z:Nat):Value:=.int .u32 (z:Nat)
theorem N8(n:Nat):madeCells #[Value.int .u32 0] n=(List.replicate n (Value.int .u32 0)).toArray:=by
 apply Array.ext
 ·simp[madeCells]
 ·intro i h1 h2;simp[madeCells,Nat.mod_one]
theorem U32s.of_block{T:TypeId}{g:Nat}{o:List Nat}(h:w.heap[g]? = some (.cells (o.map YI).toArray T (0,0)))(hl:∀z∈o,z<Z9)(hc:o.length<=9223372036854775807)(a:Option Addr)(ha:0<o.length->a=some ⟨g,0,none⟩):U32s (λ k=>k=g) w (.slice a o.length o.length) o:=by
 refine⟨g,0,⟨_,o.length,rfl,zR _,by unfold maxLen;omega,ha,λ _=>rfl⟩,λ j z hz=>⟨hl z (zP hz),?_⟩⟩;rw[zr,cell_of_row w g j _ T (0,0) h];simp[hz,YI]
theorem MM{α:Type}(L cs:List α)(h:L.length=cs.length):splice L 0 cs=cs:=by simp[splice,h]
theorem U32s.src{zs:List Nat}{a:Option Addr}{n cap:Nat}(h:U32s S w (.slice a n cap) zs)(hpos:0<(zs.map YI).length):∃ad,a=some ad/\∀j v,(zs.map YI)[j]? = some v->w.cell? (ad.add j)=some v:=by
 obtain⟨b,off,⟨a',y,I,h2,h3,J,h5⟩,D⟩:=h;obtain⟨rfl,rfl,rfl⟩:a=a'/\n=zs.length/\cap=y:=by simpa using I
 refine⟨_,J (by simpa using hpos),λ j v hv=>?_⟩;rw[yZ]at hv
 cases hz:zs[j]? with
 |none=>simp[hz]at hv
 |some z=>
  obtain rfl:YI z=v:=by simpa[hz]using hv
  rw[show(⟨b,off,none⟩:Addr).add j=⟨b,off+j,none⟩ by unfold Addr.add;split<;>simp_all];exact(D j z hz).2
theorem U32s.of_row{T:TypeId}{g cap:Nat}{o:List Nat}(h:w.rowIs g T cap (rowU o))(ho:o.length<=cap)(hl:∀z∈o,z<Z9)(hc:cap<=9223372036854775807):U32s (λ k=>k=g) w (.slice (some ⟨g,0,none⟩) o.length cap) o:=by
 refine⟨g,0,⟨_,cap,rfl,ho,by unfold maxLen;omega,λ _=>rfl,λ _=>rfl⟩,λ j z hz=>⟨hl z (zP hz),?_⟩⟩;have hj:=Zy hz;rw[zr,h.cell (i:=j) (by omega)];simp[rowU,dg,hz]
abbrev uA:=@U32s.of_row
end
end
section
open Go.RowKit
theorem Xo{S:Nat->Prop}(v:Value)(zs:List Nat)(w:World)(h:U32s S w v zs) :
  Calls Tryz.prog 100 #[v] w λ e w'=>∃v',e=.returned v'/\U32s S w v' (Z4 Z9 (val Z9 zs))/\w=w':=by
 have hl:=h.len_le;have H:=Z_ h;obtain⟨a,cap,rfl⟩:=h.form;clear h
 go_enter Tryz.func100,Tryz.ntmps100
 go_wp2
 go_loop [0] (λ x=>∃k:Nat,k<=zs.length/\x=.slice a k cap/\z32 zs k=z32 zs zs.length) (λ x=>Yr x)
 case atStart=>exact⟨zs.length,zR _,rfl,rfl⟩
 case round=>
  obtain⟨k,hk,rfl,I⟩:=hrel
  cases k with
  |zero=>
   have J:=Z_ I;clear I;go_wp2
   all_goals
    go_ret;refine⟨_,rfl,?_,rfl⟩;have O:=H.o.take (zL _);rw[<-Uw ZU zs H.o.lt,<-yW (l:=zs),<-SZ zs _ (zR _),<-J.o];exact O
  |succ k=>
   obtain⟨z,U⟩:=ZN (show k<zs.length by omega);obtain⟨b,off,D,Z,hcap,hmax,hzb,hcell⟩:=H.o.at U;obtain⟨rfl,-,rfl⟩:a=some ⟨b,off,none⟩/\True/\cap=D:=by simpa using Z
   have J:=Z_ I;have X:=Z_ U;clear I U Z
   by_cases y:z=0
   ·have hb:((z:Int) == 0)=true:=by simpa using y
    have K:=Z_ y;clear y;go_wp2
    go_round
    case rel=>exact⟨k,by omega,rfl,by rw[<-J.o,z32,X.o,K.o,if_pos rfl]⟩
    case measure=>simp only[Yr];omega
   ·have hb:((z:Int) == 0)=false:=by simpa using y
    have K:=Z_ y;clear y;go_wp2
    all_goals
     go_ret;refine⟨_,rfl,?_,rfl⟩;have O:=H.o.take hk;have h2:z32 zs (k+1)=k+1:=by rw[z32,X.o,if_neg (by simpa using K.o)]
     rw[<-Uw ZU zs H.o.lt,<-yW (l:=zs),<-SZ zs _ (zR _),<-J.o,h2];exact O
theorem XY{S:Nat->Prop}(v:Value)(zs:List Nat)(w:World)(h:U32s S w v zs)(hS:∀k,S k->k<w.heap.size)(hr:zs.length<=50000000000000) :
  Calls Tryz.prog 102 #[v] w λ e w'=>∃v',e=.returned v'/\U32s (New w w') w' v' (Z4 Z9 (val Z9 zs))/\Ext w w':=by
 have U:(Z4 Z9 (val Z9 zs)).length<=zs.length:=YZ ZU _ _ (Y4 zs h.lt);have H:=Z_ h;obtain⟨a,cap,rfl⟩:=h.form;clear h;have D:=λ(n:Nat) (hn:n<=50000000000000) (W:World)=>run_make_row' (P:=Tryz.prog) 26 75 (.int .u32 0) 4 Tryz.underlying26 uC rfl .i64 .i64 n (by omega) (by omega) W
 go_enter Tryz.func102,Tryz.ntmps102
 go_wp2_with fail;refine(Xo _ zs _ H.o).mono ?_;rintro e w' ⟨v',rfl,J,rfl⟩;generalize hR:Z4 Z9 (val Z9 zs)=R at J U;have Z:=Z_ hR;have X:=Z_ J;obtain⟨a',c',rfl⟩:=J.form;have hmk1:=D R.length (by omega) w;have I:∀z∈R,z<Z9:=by rw[<-Z.o];exact XX ZU _
 have HL:=Z_ I;have HA:=Z_ (uO (uP w) (.cells (madeCells #[.int .u32 0] R.length) 75));have K:=Z_ (X.o.to (uw hS (.cells (madeCells #[.int .u32 0] R.length) 75)) (λ _ h=>h));have O:=X.o.len_le;clear hR J D I;go_wp2_with (refine wpList_copy_splice (by rfl) (.tmp 9) (.tmp 10) 26 26 (by rfl) 75 Tryz.underlying26 (by kernel_rfl) (some ⟨w.heap.size,0,none⟩) a' R.length R.length R.length c' (by rfl) (by rfl) w.heap.size 0 (List.replicate R.length (.int .u32 0)) 75 (by rw[heap_alloc_new,N8]) (R.map YI) (by simp) (λ hp=>⟨rfl,K.o.src hp⟩) (by simp) (by intro v hv;obtain⟨z,_,rfl⟩:=zG.1 hv;rfl) w.heap.size w HA.o (zR _) ?_;intro w2 y hb);have HG:=Z_ y;have HB:=Z_ hb;clear y hb;go_wp2;go_ret;refine⟨_,rfl,?_,HB.o⟩;have y:=HG.o.out;rw[MM _ _ (by simp)]at y;rw[Z.o];refine(U32s.of_block y HL.o O _ (λ _=>rfl)).to (uN _ _) (λ k hk=>?_);subst hk;exact⟨zR _,(yg.1 y).1⟩
end
section
open Go.RowKit
def ZC(a b:Nat):Int:=cmpI (a:Int) (b:Int)
theorem Cr{n m:Nat}(h:(Z4 Z9 n).length<(Z4 Z9 m).length):ZC n m = -1:=by
 have:=ST ZU h;unfold ZC;rw[WN];omega
theorem D0{n m:Nat}(h:(Z4 Z9 m).length<(Z4 Z9 n).length):ZC n m=1:=by
 have:=ST ZU h;unfold ZC;rw[Wi];omega
theorem Po{n m k x y:Nat}(hlen:(Z4 Z9 n).length=(Z4 Z9 m).length)(hx:(Z4 Z9 n)[k]? = some x)(hy:(Z4 Z9 m)[k]? = some y)(ht:val Z9 ((Z4 Z9 n).drop (k+1))=val Z9 ((Z4 Z9 m).drop (k+1)))(h:x<y):ZC n m = -1:=by
 have h1:=Oh (B:=Z9) (l:=Z4 Z9 n) (m:=Z4 Z9 m) (k:=k) (by decide) (XX ZU n) (by rw[Zi hx,Zi hy];exact h) (Zy hx) (Zy hy) ht hlen;rw[ZB ZU,ZB ZU]at h1;unfold ZC;rw[WN];omega
theorem KG{n m k x y:Nat}(hlen:(Z4 Z9 n).length=(Z4 Z9 m).length)(hx:(Z4 Z9 n)[k]? = some x)(hy:(Z4 Z9 m)[k]? = some y)(ht:val Z9 ((Z4 Z9 n).drop (k+1))=val Z9 ((Z4 Z9 m).drop (k+1)))(h:y<x):ZC n m=1:=by
 have:=Po hlen.symm hy hx ht.symm h;unfold ZC at *;rw[zfo,this];rfl
theorem Tr{S:Nat->Prop}(va vb:Value)(xs ys:List Nat)(w:World)(ha:U32s S w va xs)(hb:U32s S w vb ys)(hS:∀k,S k->k<w.heap.size) :
  Calls Tryz.prog 130 #[va,vb] w λ e w'=>e=.returned (.int .i64 (ZC (val Z9 xs) (val Z9 ys)))/\Ext w w':=by
 have HA:=Z_ ha;have HB:=Z_ hb;obtain⟨aa,ca,rfl⟩:=ha.form;obtain⟨ab,cb,rfl⟩:=hb.form;clear ha hb
 go_enter Tryz.func130,Tryz.ntmps130
 go_wp2_with fail;refine(Xo _ xs _ HA.o).mono ?_;rintro e w' ⟨va,rfl,hu,rfl⟩;have HU:=Z_ hu;obtain⟨a1,c1,rfl⟩:=hu.form;clear hu;go_wp2_with fail;refine(Xo _ ys _ HB.o).mono ?_;rintro e w' ⟨vb,rfl,hv,rfl⟩;have HV:=Z_ hv;obtain⟨a2,c2,rfl⟩:=hv.form;clear hv;generalize hn:val Z9 xs=n at HU;generalize hm:val Z9 ys=m at HV;have HN:=Z_ hn;have HM:=Z_ hm;clear hn hm;have ac:=HU.o.len_le;have ad:=HV.o.len_le
 rcases(show(Z4 Z9 n).length<(Z4 Z9 m).length∨(Z4 Z9 m).length<(Z4 Z9 n).length∨(Z4 Z9 n).length=(Z4 Z9 m).length by omega) with z|z|D
 ·have I:=Z_ (Cr z);go_wp2
  all_goals
   go_ret;exact⟨by rw[HN.o,HM.o,I.o];rfl,uP _⟩
 ·have I:=Z_ (D0 z);go_wp2
  all_goals
   go_ret;exact⟨by rw[HN.o,HM.o,I.o];rfl,uP _⟩
 ·have HE:=Z_ D;obtain⟨L,hL⟩:∃L,L=(Z4 Z9 n).length:=⟨_,rfl⟩
  have HL:=Z_ hL;rw[<-D,<-hL]at HV ad⊢;rw[<-hL]at HU ac;clear D hL;go_wp2
  go_loopw [25] (λ i wr=>∃k:Nat,k<=L/\i=.int .i64 k/\Ext w wr/\val Z9 ((Z4 Z9 n).drop (L-k))=val Z9 ((Z4 Z9 m).drop (L-k))) (λ i _=>L-(intOf i).toNat)
  case atStart=>exact⟨0,zL _,rfl,uP _,by rw[zt (by have:=HL.o;omega),zt (by have:=HL.o;have:=HE.o;omega)]⟩
  case round=>
   obtain⟨k,hk,rfl,X,Z⟩:=hrel
   by_cases z:k<L
   ·obtain⟨q,rfl⟩:∃q,L=q+1+k:=⟨L-1-k,by omega⟩
    rw[show q+1+k-k=q+1 by omega]at Z;obtain⟨x,U⟩:=ZN (show q<(Z4 Z9 n).length by have:=HL.o;omega);obtain⟨y,K⟩:=ZN (show q<(Z4 Z9 m).length by have:=HL.o;have:=HE.o;omega);obtain⟨b1,o1,rfl,-,hn1,hm1,-,hxb,hc1⟩:=(HU.o.to (uM X hS) (λ _ h=>h)).cellAt U;obtain⟨b2,o2,rfl,-,hn2,hm2,-,hyb,hc2⟩:=(HV.o.to (uM X hS) (λ _ h=>h)).cellAt K;have HX:=Z_ X;have HT:=Z_ Z;have O:=Z_ U;have J:=Z_ K;clear X Z U K;have hq:((q:Nat):Int)+1+(k:Int)-1-(k:Int)=(q:Int):=by omega
    rcases(show x<y∨y<x∨x=y by omega) with z|z|D
    ·have I:=Z_ (Po HE.o O.o J.o HT.o z);go_wp2
     go_quiet (fail)
     go_wp2
     all_goals
      go_ret;exact⟨by rw[HN.o,HM.o,I.o];rfl,HX.o.drewN _⟩
    ·have I:=Z_ (KG HE.o O.o J.o HT.o z);go_wp2
     go_quiet (fail)
     go_wp2
     go_quiet (fail)
     go_wp2
     all_goals
      go_ret;exact⟨by rw[HN.o,HM.o,I.o];rfl,(HX.o.drewN _).drewN _⟩
    ·subst D;go_wp2
     go_quiet (fail)
     go_wp2
     go_quiet (fail)
     go_wp2
     go_roundw
     case rel=>
      refine⟨k+1,by omega,by go_num,HX.o.drewN _,?_⟩;rw[show q+1+k-(k+1)=q by omega,UB O.o,UB J.o,HT.o]
     case measure=>simp only[intOf];omega
   ·obtain rfl:k=L:=by omega
    have HX:=Z_ X
    have I:Hd (ZC n m=0):=by
     have e:n=m:=by
      rw[xZ]at Z;simpa[ZB ZU]using Z
     refine Z_ ?_;rw[e];exact Ps _
    clear X Z;go_wp2
    all_goals
     go_ret;exact⟨by rw[HN.o,HM.o,I.o];rfl,HX.o⟩
end
section
open Go.RowKit
theorem AR{S:Nat->Prop}(va vb:Value)(xs ys:List Nat)(w:World)(ha:U32s S w va xs)(hb:U32s S w vb ys)(hS:∀k,S k->k<w.heap.size)(hlt:val Z9 xs<val Z9 ys) :
  Calls Tryz.prog 99 #[va,vb] w λ e w'=>e=.returned (.tuple #[.slice none 0 0,.int .i64 2])/\Ext w w':=by
 have O:=Z_ ha;have I:=Z_ hb;obtain⟨aa,ca,rfl⟩:=ha.form;obtain⟨ab,cb,rfl⟩:=hb.form;have D:ZC (val Z9 xs) (val Z9 ys) = -1:=by unfold ZC;rw[WN];omega
 have z:=Tr _ _ xs ys w O.o I.o hS;rw[D]at z;have J:=Z_ z;clear ha hb D z hlt
 go_enter Tryz.func99,Tryz.ntmps99
 go_wp2_with fail;refine J.o.mono ?_;rintro e w1 ⟨rfl,y⟩;have K:=Z_ y;clear y;go_wp2;go_ret2;exact⟨rfl,K.o⟩
theorem Sw{S:Nat->Prop}(va vb:Value)(xs ys:List Nat)(w:World)(ha:U32s S w va xs)(hb:U32s S w vb ys)(hS:∀k,S k->k<w.heap.size)(hr:xs.length<=50000000000000)(hge:val Z9 ys<=val Z9 xs) :
  Calls Tryz.prog 99 #[va,vb] w λ e w'=>∃v',e=.returned (.tuple #[v',.int .i64 0])/\U32s (New w w') w' v' (Z4 Z9 (val Z9 xs-val Z9 ys))/\Ext w w':=by
 have aj:(Z4 Z9 (val Z9 xs)).length<=xs.length:=YZ ZU _ _ (Y4 xs ha.lt);have HA:=Z_ ha;have HB:=Z_ hb;obtain⟨aa,ca,rfl⟩:=ha.form;obtain⟨ab,cb,rfl⟩:=hb.form;obtain⟨J,hc,ar⟩:∃J:Int,ZC (val Z9 xs) (val Z9 ys)=J/\0<=J/\J<=1:=⟨_,rfl,by unfold ZC cmpI;split<;>(try split)<;>omega⟩
 have hm:=Tr _ _ xs ys w HA.o HB.o hS;rw[hc]at hm;have HM:=Z_ hm;have ae:=Z_ hge;clear ha hb hc hm hge
 go_enter Tryz.func99,Tryz.ntmps99
 go_wp2_with fail;refine HM.o.mono ?_;rintro e w1 ⟨rfl,O⟩;have ag:∀k,S k->k<w1.heap.size:=λ k hk=>zU (hS k hk) O.size;have HX:=Z_ O;go_wp2_with fail;refine(Xo (S:=S) _ xs w1 (HA.o.to (uM O hS) (λ _ h=>h))).mono ?_;rintro e w' ⟨va,rfl,hu,rfl⟩;have HU:=Z_ hu;obtain⟨a1,c1,rfl⟩:=hu.form;clear hu;go_wp2_with fail;refine(Xo (S:=S) _ ys w1 (HB.o.to (uM O hS) (λ _ h=>h))).mono ?_;rintro e w' ⟨vb,rfl,hv,rfl⟩;have HV:=Z_ hv;obtain⟨a2,c2,rfl⟩:=hv.form;clear hv O;generalize hn:val Z9 xs=n at HU ae aj;generalize hm:val Z9 ys=m at HV ae;have HN:=Z_ hn;have HM:=Z_ hm;clear hn hm;have hmk:=run_make_row' (P:=Tryz.prog) 26 75 (.int .u32 0) 4 Tryz.underlying26 uC rfl .i64 .i64 (Z4 Z9 n).length (by omega) (by omega) w1;have hz:w1.heap.size<(w1.alloc (.cells (madeCells #[.int .u32 0] (Z4 Z9 n).length) 75)).heap.size:=by simp
 have HR:=Z_ (Qf w1 (Z4 Z9 n).length 75);have HE:=Z_ (uO (uP w1) (.cells (madeCells #[.int .u32 0] (Z4 Z9 n).length) 75));go_wp2
 go_loopw [7,23] (λ c i wr=>∃(k J:Nat) (o:List Nat),k<=(Z4 Z9 n).length/\i=.int .i64 k/\c=.int .u64 J/\J<=1/\o.length=k/\Hd (∀z∈o,z<Z9)/\wr.rowIs w1.heap.size 75 (Z4 Z9 n).length (rowU o)/\Ext w1 wr /\
  val Z9 o+val Z9 ((Z4 Z9 m).take k)=val Z9 ((Z4 Z9 n).take k)+Z9^k*J) (λ _ i _=>(Z4 Z9 n).length-(intOf i).toNat)
 case atStart=>exact⟨0,0,[],zL _,rfl,rfl,by omega,rfl,Z_ (by simp),HR.o,HE.o,by simp[val]⟩
 case round=>
  obtain⟨k,J,o,hk,rfl,rfl,ar,ac,HO,K,hx,hv⟩:=hrel
  by_cases aq:k<(Z4 Z9 n).length
  ·obtain⟨x,O⟩:=ZN aq;obtain⟨b1,o1,rfl,-,hn1,hm1,-,hxb,hc1⟩:=(HU.o.to (uM hx ag) (λ _ h=>h)).cellAt O;have hcs:=K.cell (i:=k) (by omega);have hfs:=K.frozen k;have ad:=Z_ O;have I:=Z_ K;have U:=Z_ hx;have X:=Z_ hv;have D:=Z_ ac;clear O K hx hv ac
   by_cases ai:k<(Z4 Z9 m).length
   ·obtain⟨y,af⟩:=ZN ai;obtain⟨b2,o2,rfl,-,hn2,hm2,-,hyb,hc2⟩:=(HV.o.to (uM U.o ag) (λ _ h=>h)).cellAt af;have ah:=Z_ af;clear af
    by_cases hs:y+J<=x
    ·go_wp2
     go_roundw
     case rel=>
      skip
      refine⟨k+1,0,o ++ [x-y-J],by omega,by go_num,congrArg (Value.int .u64) (by omega),by omega,by simp[D.o],?_,?_,U.o.setCell (p:=⟨w1.heap.size,k,none⟩) (zR _) _,?_⟩
      ·refine Z_ (λ z hz=>?_)
       rcases zC.1 hz with h|h
       ·exact HO.o z h
       ·rw[zQ.1 h];show _<4294967296;omega
      ·have Z:=WX I.o (x-y-J);rw[D.o]at Z;refine cast (congrArg (λ e=>World.rowIs (World.setCell wr ⟨w1.heap.size,k,none⟩ (Value.int .u32 e)) _ _ _ _) ?_) Z;omega
      ·refine VH D.o X.o _ _ ?_;rw[Zi ad.o,Zi ah.o];show _+4294967296*_=_;omega
     case measure=>simp only[intOf];omega
    ·go_wp2
     go_roundw
     case rel=>
      rw[show IntKind.u64.wrap (IntKind.u64.wrap ((x:Int)-J)-y)=18446744073709551616+(x:Int)-J-y by rw[IntKind.wrap_u64,IntKind.wrap_u64];omega]
      refine⟨k+1,1,o ++ [x+4294967296-y-J],by omega,by go_num,congrArg (Value.int .u64) (by omega),by omega,by simp[D.o],?_,?_,U.o.setCell (p:=⟨w1.heap.size,k,none⟩) (zR _) _,?_⟩
      ·refine Z_ (λ z hz=>?_)
       rcases zC.1 hz with h|h
       ·exact HO.o z h
       ·rw[zQ.1 h];show _<4294967296;omega
      ·have Z:=WX I.o (x+4294967296-y-J);rw[D.o]at Z;refine cast (congrArg (λ e=>World.rowIs (World.setCell wr ⟨w1.heap.size,k,none⟩ (Value.int .u32 e)) _ _ _ _) ?_) Z;omega
      ·refine VH D.o X.o _ _ ?_;rw[Zi ad.o,Zi ah.o];show _+4294967296*_=_;omega
     case measure=>simp only[intOf];omega
   ·by_cases hs:J<=x
    ·go_wp2
     go_roundw
     case rel=>
      skip
      refine⟨k+1,0,o ++ [x-0-J],by omega,by go_num,congrArg (Value.int .u64) (by omega),by omega,by simp[D.o],?_,?_,U.o.setCell (p:=⟨w1.heap.size,k,none⟩) (zR _) _,?_⟩
      ·refine Z_ (λ z hz=>?_)
       rcases zC.1 hz with h|h
       ·exact HO.o z h
       ·rw[zQ.1 h];show _<4294967296;omega
      ·have Z:=WX I.o (x-0-J);rw[D.o]at Z;refine cast (congrArg (λ e=>World.rowIs (World.setCell wr ⟨w1.heap.size,k,none⟩ (Value.int .u32 e)) _ _ _ _) ?_) Z;omega
      ·refine VH D.o X.o _ _ ?_;rw[Zi ad.o,Yv (l:=Z4 Z9 m) (by omega)];show _+4294967296*_=_;omega
     case measure=>simp only[intOf];omega
    ·go_wp2
     go_roundw
     case rel=>
      rw[show IntKind.u64.wrap ((x:Int)-J)=18446744073709551616+(x:Int)-J by rw[IntKind.wrap_u64];omega]
      refine⟨k+1,1,o ++ [x+4294967296-0-J],by omega,by go_num,congrArg (Value.int .u64) (by omega),by omega,by simp[D.o],?_,?_,U.o.setCell (p:=⟨w1.heap.size,k,none⟩) (zR _) _,?_⟩
      ·refine Z_ (λ z hz=>?_)
       rcases zC.1 hz with h|h
       ·exact HO.o z h
       ·rw[zQ.1 h];show _<4294967296;omega
      ·have Z:=WX I.o (x+4294967296-0-J);rw[D.o]at Z;refine cast (congrArg (λ e=>World.rowIs (World.setCell wr ⟨w1.heap.size,k,none⟩ (Value.int .u32 e)) _ _ _ _) ?_) Z;omega
      ·refine VH D.o X.o _ _ ?_;rw[Zi ad.o,Yv (l:=Z4 Z9 m) (by omega)];show _+4294967296*_=_;omega
     case measure=>simp only[intOf];omega
  ·obtain rfl:k=(Z4 Z9 n).length:=by omega
   have U:=Z_ hx;have I:=Z_ K;have ap:(Z4 Z9 m).length<=(Z4 Z9 n).length:=YZ ZU _ _ (zh ae.o (Xq ZU n));rw[zN ap,yW,ZB ZU,ZB ZU]at hv;have X:=Z_ (Mr HO.o ac ae.o hv)
   have hu:U32s (λ k=>k=w1.heap.size) wr (.slice (some ⟨w1.heap.size,0,none⟩) (Z4 Z9 n).length (Z4 Z9 n).length) o:=by
    have Z:=uA I.o (by omega) HO.o (by omega)
    rwa [ac]at Z
   have al:=Z_ hu;clear hx K hv ac hu;go_wp2_with fail;refine(Xo _ o _ al.o).mono ?_;rintro e w' ⟨v',rfl,hu,rfl⟩;have H:=Z_ hu;clear hu;go_wp2
   all_goals
    go_ret2;refine⟨_,rfl,?_,HX.o.trans U.o⟩;rw[HN.o,HM.o,<-X.o];refine H.o.to (uN _ _) (λ k hk=>?_);subst hk;exact⟨HX.o.size,I.o.lt⟩
end
section
theorem AK{P U3 Ul V2 Vl q:Nat}(hUl:Ul<P)(h:U3<(q+1)*V2):U3*P+Ul<(q+1)*(V2*P+Vl):=by
 have h1:(U3+1)*P<=(q+1)*V2*P:=zF P h;rw[y8 U3 1 P,yM]at h1;rw[zy,<-zu];omega
theorem AW{B P U3 Ul V2 Vl q:Nat}(hVl:Vl<P)(hq:q*V2<=U3)(hqB:q<=B)(hV2:B<=V2):q*(V2*P+Vl)<=(U3*P+Ul)+(V2*P+Vl):=by
 cases q with
 |zero=>rw[yE];exact zL _
 |succ p=>
  have h1:(p+1)*V2*P<=U3*P:=zF P hq;have h2:p*Vl<=V2*P:=yR (by omega) (xi hVl);rw[zy,<-zu,y8 p 1 Vl,yM];omega
def UW(B top u2 v1 v2 q:Nat):Prop:=B<=q+1∨top*B+u2<(q+1)*(v1*B+v2)
theorem BT{B top u2 v1 v2:Nat}(hu2:u2<B)(hv1:0<v1):UW B top u2 v1 v2 (top / v1):=by
 refine .inr ?_
 have z:top<(top / v1+1)*v1:=by
  have h:=xr top v1;have h2:=yS top hv1;rw[y8,yM,zq];omega
 have y:(top+1)*B<=(top / v1+1)*v1*B:=zF B z;rw[y8 top 1 B,yM]at y;rw[zy,<-zu];omega
theorem Mx{B top u2 v1 v2 q r:Nat}(ht:r+q*v1=top)(hq:0<q)(hc:B<=q∨r*B+u2<q*v2):UW B top u2 v1 v2 (q-1):=by
 have e:q-1+1=q:=by omega
 unfold UW;rw[e]
 rcases hc with h|h
 ·exact .inl h
 ·refine .inr ?_;rw[<-ht,y8,zy,<-zu];omega
theorem Ei{B top u2 v1 v2 q r:Nat}(ht:r+q*v1=top)(hc:r*B+u2≥q*v2):q*(v1*B+v2)<=top*B+u2:=by
 rw[<-ht,y8,zy,<-zu];omega
theorem MF{v1 q r top:Nat}(ht:r+q*v1=top)(hq:0<q):r+v1+(q-1)*v1=top:=by
 obtain⟨p,rfl⟩:∃p,q=p+1:=⟨q-1,by omega⟩
 rw[y8,yM]at ht;rw[xD];omega
theorem ND{B top u0 u1 u2 v1 v2 q r:Nat}(ht:r+q*v1=top)(htop:top=u0*B+u1)(hle:u0<=v1)(hu1:u1<B)(hv2:v2<B)(hr:B<=r):q<B/\q*v2<=r*B+u2:=by
 have D:q<B:=by
  rcases xj q B with h|h
  ·exact h
  ·have y:B*v1<=q*v1:=zF v1 h;have z:u0*B<=v1*B:=zF B hle;rw[zq B v1]at y;omega
 refine⟨D,?_⟩;have y:q*v2<=B*B:=yR (by omega) (by omega);have z:B*B<=r*B:=zF B hr;omega
theorem AQ{U V q o b M:Nat}(ho:o<M)(hb:b<=1)(h:o+q*V=U+M*b)(hup:U<(q+1)*V)(hlow:q*V<=U+V)(_hU:U<M)(hV:V<=M) :
  (b=0->q=U / V/\o=U % V)/\(b=1->0<q/\q-1=U / V/\(o+V) % M=U % V):=by
 have D:0<V:=by
  rcases zj V with z|z
  ·rw[z,yw]at hup;omega
  ·exact z
 rw[y8,yM]at hup
 refine⟨λ z=>?_,λ h1=>?_⟩
 ·subst z;have e:U=V*q+o:=by rw[zq V q];omega
  have y:o<V:=by omega
  refine⟨?_,?_⟩
  ·rw[e,wI D,yb y];omega
  ·rw[e,wH,yB y]
 ·subst h1;rw[wO]at h
  have J:0<q:=by
   rcases zj q with z|z
   ·rw[z,yE]at h;omega
   ·exact z
  obtain⟨p,rfl⟩:∃p,q=p+1:=⟨q-1,by omega⟩
  rw[y8,yM]at h hup hlow;have e:U=V*p+(o+V-M):=by rw[zq V p];omega
  have y:o+V-M<V:=by omega
  have I:M<=o+V:=by omega
  refine⟨J,?_,?_⟩
  ·rw[e,wI D,yb y];omega
  ·rw[Nat.mod_eq_sub_mod I,yB (by omega)]
   conv=>rhs;rw[e,wH,yB y]
section
variable {B:Nat}
theorem Xv(l:List Nat)(k:Nat):val B l=val B (l.take k)+B^(min k l.length)*val B (l.drop k):=by
 have h:=z43 (B:=B) (l.take k) (l.drop k);rw[y_,zD]at h;exact h
theorem Av(_hB:0<B){l:List Nat}{n:Nat}(hl:l.length=n+1)(hn:2<=n):val B l=((dg l n*B+dg l (n-1))*B+dg l (n-2))*B^(n-2)+val B (l.take (n-2)):=by
 obtain⟨m,rfl⟩:∃m,n=m+2:=⟨n-2,by omega⟩
 rw[Xv l m,show min m l.length=m by omega,z1t l m,z1t l (m+1),z1t l (m+1+1)];have e:l.drop (m+1+1+1)=[]:=zt (by omega);rw[e,show m+2-1=m+1 by omega,show m+2-2=m by omega,show m+1+1=m+2 by omega,show val B ([]:List Nat)=0 from rfl];rw[yw,zp,zq (B^m),xY (val B _)]
 congr 1
 rw[xY (dg l m),zq B,xY (dg l (m+1)),zq B,zp]
theorem DN{l:List Nat}{n:Nat}(hl:l.length=n)(hn:2<=n):val B l=(dg l (n-1)*B+dg l (n-2))*B^(n-2)+val B (l.take (n-2)):=by
 obtain⟨m,rfl⟩:∃m,n=m+2:=⟨n-2,by omega⟩
 rw[Xv l m,show min m l.length=m by omega,z1t l m,z1t l (m+1)];have e:l.drop (m+1+1)=[]:=zt (by omega);rw[e,show m+2-1=m+1 by omega,show m+2-2=m by omega,show val B ([]:List Nat)=0 from rfl];rw[yw,zp,zq (B^m),xY (val B _)]
 congr 1
 rw[xY (dg l m),zq B]
theorem EE(hB:2<=B){us vs:List Nat}{n q r:Nat}(hus:∀z∈us,z<B)(hvs:∀z∈vs,z<B)(hu:us.length=n+1)(hv:vs.length=n)(hn:2<=n)(hV1:0<dg vs (n-1))(hUV:val B us<B*val B vs)
  (ht:r+q*dg vs (n-1)=dg us n*B+dg us (n-1)) (hqB:q<B) (hc:q*dg vs (n-2)<=r*B+dg us (n-2)) (hok:UW B (dg us n*B+dg us (n-1)) (dg us (n-2)) (dg vs (n-1)) (dg vs (n-2)) q) :
  val B us<(q+1)*val B vs/\q*val B vs<=val B us+val B vs:=by
 have K:=Av (by omega:0<B) hu hn;have J:=DN (B:=B) hv hn
 have I:val B (us.take (n-2))<B^(n-2):=by
  have h:=Y4 (B:=B) (us.take (n-2)) (λ z hz=>hus z (yU hz))
  rwa [zD,show min (n-2) us.length=n-2 by omega]at h
 have y:val B (vs.take (n-2))<B^(n-2):=by
  have h:=Y4 (B:=B) (vs.take (n-2)) (λ z hz=>hvs z (yU hz))
  rwa [zD,show min (n-2) vs.length=n-2 by omega]at h
 have O:=Ei ht hc
 have D:B<=dg vs (n-1)*B+dg vs (n-2):=by
  have:=yk B hV1;omega
 refine⟨?_,?_⟩
 ·rcases hok with h|h
  ·refine zU hUV (zF _ h)
  ·rw[K,J];exact AK I h
 ·rw[K,J];exact AW y O (xi hqB) D
theorem Nh{ps us vs:List Nat}{q i b c x u d b' c':Nat}(hl:ps.length=i)(h:val B ps+q*val B (vs.take i)=val B (us.take i)+B^i*(b+c))(hx:dg vs i=x)(hu:dg us i=u)(he:b+c+q*x+d=u+B*(b'+c')) :
  val B (ps ++ [d])+q*val B (vs.take (i+1))=val B (us.take (i+1))+B^(i+1)*(b'+c'):=by
 rw[z64,hl,z26,z26,hx,hu,yY,zu (B^i) B,zy q];have y:B^i*(b+c+q*x+d)=B^i*(u+B*(b'+c')):=by rw[he]
 rw[zy,zy (B^i) (b+c),zy (B^i) u,xK (B^i) q x]at y;omega
theorem M5{ps us vs:List Nat}{i c u x:Nat}(hl:ps.length=i)(h:val B ps+B^i*c=val B (us.take i)+val B (vs.take i))(hx:dg vs i=x)(hu:dg us i=u) :
  val B (ps ++ [(c+u+x) % B])+B^(i+1)*((c+u+x) / B)=val B (us.take (i+1))+val B (vs.take (i+1)):=by
 rw[z64,hl,z26,z26,hx,hu,yY,zu (B^i) B];have y:B^i*(B*((c+u+x) / B)+(c+u+x) % B)=B^i*(c+u+x):=by rw[xr]
 rw[zy,zy,zy]at y;omega
structure NDivAt (B A V n:Nat) (u qs:List Nat) (j:Nat):Prop where
 sum:val B u+B^j*(V*val B (qs.drop j))=A
 low:val B (u.drop j)<V
def Y6(u:List Nat)(k n:Nat):List Nat:=(u.drop k).take (n+1)
def ZF(u:List Nat)(k:Nat)(ps:List Nat):List Nat:=u.take k++ps++u.drop (k+ps.length)
theorem Wb{u:List Nat}{k n:Nat}(h:k+n<u.length):(Y6 u k n).length=n+1:=by
 unfold Y6;rw[zD,yG];omega
theorem TH{u:List Nat}{k n i:Nat}(hi:i<n+1):dg (Y6 u k n) i=dg u (k+i):=by
 unfold Y6 dg;rw[w_,if_pos hi,yx]
theorem Sq{u ps:List Nat}{k:Nat}(h:k+ps.length<=u.length):(ZF u k ps).length=u.length:=by
 unfold ZF;rw[zI,zI,zD,yG];omega
theorem Ql(hB:2<=B){u:List Nat}{k n V:Nat}(hu:∀z∈u,z<B)(hk:k+n<u.length)(hV:V<B^n)(hlow:val B (u.drop (k+1))<V) :
  val B u=val B (u.take k)+B^k*val B (Y6 u k n)/\val B (Y6 u k n)<B*V/\∀i,k+n<i->dg u i=0:=by
 have J:=Xv (B:=B) u k;rw[show min k u.length=k by omega]at J;have O:=Xv (B:=B) (u.drop (k+1)) n;rw[yG,show min n (u.length-(k+1))=n by omega,List.drop_drop]at O
 have I:val B (u.drop (k+1+n))=0:=by
  rcases zj (val B (u.drop (k+1+n))) with h|h
  ·exact h
  ·have:=y9 (B^n) h;omega
 have K:val B (Y6 u k n)=val B (u.drop k):=by
  have y:=Xv (B:=B) (u.drop k) (n+1);rw[List.drop_drop,show k+(n+1)=k+1+n by omega,I,yw,zp]at y;exact y.symm
 refine⟨by rw[K];exact J,?_,?_⟩
 ·rw[K,z1t u k];have y:=TX (by omega:0<B) hu k;have D:B*(val B (u.drop (k+1))+1)<=B*V:=yV B hlow;rw[zy,wO]at D;omega
 ·intro i hi;have y:=Mj (by omega:0<B) (l:=u.drop (k+1+n)) (k:=0) (by rw[I];simp) (i-(k+1+n)) (zL _)
  by_cases hl:i<u.length
  ·have D:=y (by rw[yG];omega);unfold dg at D⊢;rw[yx,show k+1+n+(i-(k+1+n))=i by omega]at D;exact D
  ·exact Yv (by omega)
theorem Oz(hB:2<=B){A V n k:Nat}{u qs ps:List Nat}(hu:∀z∈u,z<B)(hk:k+n<u.length)(hkq:k<qs.length)(hV:V<B^n)(h:NDivAt B A V n u qs (k+1))(hps:ps.length=n+1)(hpv:val B ps=val B (Y6 u k n) % V)(hV0:0<V) :
  NDivAt B A V n (ZF u k ps) (qs.set k (val B (Y6 u k n) / V)) k:=by
 obtain⟨h1,Z⟩:=h;obtain⟨K,p2,X⟩:=Ql hB hu hk hV Z;have y:=xr (val B (Y6 u k n)) V
 have D:val B (u.drop (k+ps.length))=0:=by
  have O:∀z∈u.drop (k+ps.length),z=0:=λ z hz=>by
   obtain⟨i,hi⟩:=yp hz;rw[yx]at hi;have h4:=X (k+ps.length+i) (by omega)
   rwa [Zi hi]at h4
  have h5:u.drop (k+ps.length)=List.replicate (u.drop (k+ps.length)).length 0:=List.eq_replicate_iff.2 ⟨rfl,O⟩;rw[h5,z6q]
 have J:(qs.set k (val B (Y6 u k n) / V)).drop k=(val B (Y6 u k n) / V) :: qs.drop (k+1):=by
  rw[List.drop_set,if_neg (yQ k),xZ,yr hkq,List.set_cons_zero]
 have I:val B (ZF u k ps)=val B (u.take k)+B^k*val B ps:=by
  unfold ZF;rw[z43,z43,D,yw,zp,zD,show min k u.length=k by omega]
 refine⟨?_,?_⟩
 ·rw[J,I,hpv,show val B ((val B (Y6 u k n) / V) :: qs.drop (k+1))=val B (Y6 u k n) / V+B*val B (qs.drop (k+1)) from rfl];rw[<-h1,K,yY];generalize val B (Y6 u k n) / V=q at y⊢;generalize val B (Y6 u k n) % V=r at y⊢;generalize val B (qs.drop (k+1))=t;rw[<-y,zy V,zy (B^k),zy (B^k),zu (B^k) B,xK B V];omega
 ·have U:(ZF u k ps).drop k=ps++u.drop (k+ps.length):=by
   unfold ZF;rw[zB,vX (by rw[zD];omega),List.drop_take,xZ,List.take_zero,yL]
  rw[U,z43,D,yw,zp,hpv];exact yS _ hV0
theorem Gh{A V n:Nat}{u qs:List Nat}(hV0:0<V)(h:NDivAt B A V n u qs 0):val B qs=A / V/\val B u=A % V:=by
 obtain⟨z,y⟩:=h;rw[uZ,yM,wg]at z;rw[wg]at y;rw[<-z,xY,wI hV0,yb y,wH,yB y];exact⟨rfl,rfl⟩
end
theorem Fc{a b c:Nat}(hc:0<c):a*c / (b*c)=a / b/\a*c % (b*c)=a % b*c:=⟨Nat.mul_div_mul_right a b hc,Nat.mul_mod_mul_right c a b⟩
end
section
open Go.RowKit
structure Later (w:World) where
 w':World
 h:Ext w w'
instance (w:World):Nonempty (Later w):=⟨⟨w,uP w⟩⟩
instance (w:World):Inhabited (Later w):=⟨⟨w,uP w⟩⟩
theorem Zh{P:Program}{id:Nat}{Q:Exit->Act->World->Prop}{a:Act}{w:World}{l:List Oper}(hm:P.follows .mixedOrders=true)(hB:Region.lexB .any l.toArray=true)
  (h:wpQuiet P l.toArray (λ W=>∃X:Later w,W=X.w') (λ a'=>∀W,Ext w W->Q .normal a' W) l a):(Code.region id l.toArray true).wp P Q a w:=by
 refine wp_region_quiet (C:=λ W=>∃X:Later w,W=X.w') hm hB ⟨⟨{ w with drawn:=w.drawn+1 },rfl,rfl,rfl,zR _,λ _ _=>rfl⟩,rfl⟩ ?_
 have e:(λ a':Act=>∀W,(∃X:Later w,W=X.w')->Q .normal a' W)=(λ a':Act=>∀W,Ext w W->Q .normal a' W):=by
  funext a'
  refine propext ⟨λ k W hW=>k W ⟨⟨W,hW⟩,rfl⟩,?_⟩;rintro k W ⟨X,rfl⟩;exact k _ X.h
 rw[e];exact h
theorem Later.done{P:Program}{f:FuncId}{args:Array Value}{w:World}{X:Later w}{v:Value}
  (h:Calls P f args X.w' λ e w'=>e=.returned v/\Ext X.w' w'):Calls P f args X.w' λ e w''=>e=.returned v/\∃Y:Later w,w''=Y.w' :=
 h.mono λ _ W ⟨he,hm⟩=>⟨he,⟨W,X.h.trans hm⟩,rfl⟩
abbrev uL:=@Later.done
theorem Later.cell{w:World}(X:Later w){b i:Nat}{v:Value}(hc:w.cell? ⟨b,i,none⟩=some v):X.w'.cell? ⟨b,i,none⟩=some v:=X.h.cell hc
end
end Go.Proofs.YtlbohjnfkhemlaaGreat
