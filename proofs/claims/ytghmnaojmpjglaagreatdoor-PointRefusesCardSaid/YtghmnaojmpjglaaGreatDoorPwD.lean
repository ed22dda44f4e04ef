/-
  What functions of the program compute, one by one. Conditions: those of each theorem.
-/
import Derived.Test.YtghmnaojmpjglaaGreatDoorPwC
set_option linter.all false
namespace Go.Proofs.YtghmnaojmpjglaaGreatDoor.PR
open Go.Proofs.YtghmnaojmpjglaaGreatDoor.Eo
noncomputable section
variable(P:Program)[PT P]{call:CallE}
def isF(hs:List Int)(x:Int)(lo hi:Nat)(v:Int):Prop:=(v=0∧∀j,lo<=j->j<hi->hs[j]?≠some x)∨∃j,lo<=j∧j<hi∧hs[j]?=some x∧v=(j:Int)+1∧∀j',lo<=j'->j'<j->hs[j']?≠some x
theorem isF.uniq{hs:List Int}{x:Int}{lo hi:Nat}{v w:Int}(a:isF hs x lo hi v)(b:isF hs x lo hi w):v=w:=by
 rcases a with⟨rfl,a⟩|⟨j,a1,a2,a3,rfl,a4⟩
 ·rcases b with⟨rfl,b⟩|⟨i,b1,b2,b3,rfl,b4⟩
  ·rfl
  ·exact absurd b3 (a i b1 b2)
 ·rcases b with⟨rfl,b⟩|⟨i,b1,b2,b3,rfl,b4⟩
  ·exact absurd a3 (b j a1 a2)
  ·rcases Nat.lt_trichotomy i j with h|h|h
   ·exact absurd b3 (a4 i b1 h)
   ·rw[h]
   ·exact absurd a3 (b4 j a1 h)
structure Asc(hs:List Int):Prop where
 rng:∀(j:Nat) x,hs[j]?=some x->1<=x∧x<=6
 le:∀(i j:Nat) x y,i<=j->hs[i]?=some x->hs[j]?=some y->x<=y
structure InA(P:Nat)(hs:List Int)(W i:Nat)(ws:List Int):Prop where
 len:ws.length=W
 pool:∀x:Nat,x<6->∃v,ws[P+x]?=some v∧isF hs ((x:Int)+1) 0 i v
 link:∀k,k<hs.length->ws[P+6+k]?=some (if k+1<i∧hs[k]?=hs[k+1]? then(k:Int)+2 else 0)
 rest:∀q,q<W->(q<P∨P+6+hs.length<=q)->ws[q]?=some 0
theorem inA(P:Nat){hs:List Int}(as:Asc hs){W:Nat}(hW:P+6+hs.length<=W):∀i,i<=hs.length->InA P hs W i (iniA (P:Int) ((P:Int)+6) hs W i)
 |0,_=>by
  have z:∀q,q<W->(List.replicate W (0:Int))[q]?=some 0:=fun q hq=>by rw[List.getElem?_replicate,if_pos hq]
  exact⟨List.length_replicate,fun x hx=>⟨0,z _ (by omega),.inl ⟨rfl,fun j _ hj=>by omega⟩⟩,fun k hk=>by rw[if_neg (by omega)];exact z _ (by omega),fun q hq _=>z q hq⟩
 |i+1,hi=>by
  have ih:=inA P as hW i (by omega)
  show InA P hs W (i+1) (stepA (P:Int) ((P:Int)+6) hs i (iniA (P:Int) ((P:Int)+6) hs W i))
  generalize iniA (P:Int) ((P:Int)+6) hs W i=ws at ih
  obtain⟨x,hx⟩:∃x,hs[i]?=some x:=⟨hs[i],List.getElem?_eq_getElem (by omega)⟩
  obtain⟨r1,r2⟩:=as.rng i x hx
  unfold stepA
  rw[hx]
  simp only[]
  by_cases hp:0<i∧hs[i-1]?=some x
  ·rw[if_pos hp,show((P:Int)+6+(i:Int) -1).toNat=P+6+(i-1) by omega]
   refine⟨by rw[List.length_set];exact ih.len,fun y hy=>?_,fun k hk=>?_,fun q hq h=>?_⟩
   ·obtain⟨v,hv,hf⟩:=ih.pool y hy
    refine⟨v,by rw[List.getElem?_set,if_neg (by omega)];exact hv,?_⟩
    rcases hf with⟨rfl,hf⟩|⟨j,a1,a2,a3,rfl,a4⟩
    ·refine .inl ⟨rfl,fun j h1 h2=>?_⟩
     by_cases e:j=i
     ·rw[e,hx]
      intro e2
      exact hf (i-1) (by omega) (by omega) (hp.2.trans e2)
     ·exact hf j h1 (by omega)
    ·exact .inr ⟨j,a1,by omega,a3,rfl,a4⟩
   ·rw[List.getElem?_set]
    by_cases e:P+6+(i-1)=P+6+k
    ·rw[if_pos e,if_pos (by rw[ih.len];omega)]
     have e2:k=i-1:=by omega
     rw[if_pos ⟨by omega,by rw[e2,hp.2,show i-1+1=i by omega,hx]⟩]
     congr 1
     omega
    ·rw[if_neg e,ih.link k hk]
     by_cases c:k+1<i∧hs[k]?=hs[k+1]?
     ·rw[if_pos c,if_pos ⟨by omega,c.2⟩]
     ·rw[if_neg c,if_neg (fun h=>c ⟨by omega,h.2⟩)]
   ·rw[List.getElem?_set,if_neg (by omega)]
    exact ih.rest q hq h
  ·rw[if_neg hp,show((P:Int)+x-1).toNat=P+(x-1).toNat by omega]
   have no:∀j,j<i->hs[j]?≠some x:=fun j hj e=>by
    have h0:0<i:=by omega
    obtain⟨y,hy⟩:∃y,hs[i-1]?=some y:=⟨hs[i-1],List.getElem?_eq_getElem (by omega)⟩
    have l1:=as.le j (i-1) x y (by omega) e hy
    have l2:=as.le (i-1) i y x (by omega) hy hx
    exact hp ⟨h0,by rw[hy,show y=x by omega]⟩
   refine⟨by rw[List.length_set];exact ih.len,fun y hy=>?_,fun k hk=>?_,fun q hq h=>?_⟩
   ·rw[List.getElem?_set]
    by_cases e:P+(x-1).toNat=P+y
    ·rw[if_pos e,if_pos (by rw[ih.len];omega)]
     have e2:(y:Int)+1=x:=by omega
     exact⟨_,rfl,.inr ⟨i,by omega,by omega,by rw[e2];exact hx,rfl,fun j h1 h2=>by rw[e2];exact no j h2⟩⟩
    ·rw[if_neg e]
     obtain⟨v,hv,hf⟩:=ih.pool y hy
     refine⟨v,hv,?_⟩
     rcases hf with⟨rfl,hf⟩|⟨j,a1,a2,a3,rfl,a4⟩
     ·refine .inl ⟨rfl,fun j h1 h2=>?_⟩
      by_cases e3:j=i
      ·rw[e3,hx]
       intro e2
       have:=Option.some.inj e2
       omega
      ·exact hf j h1 (by omega)
     ·exact .inr ⟨j,a1,by omega,a3,rfl,a4⟩
   ·rw[List.getElem?_set,if_neg (by omega),ih.link k hk]
    by_cases c:k+1<i∧hs[k]?=hs[k+1]?
    ·rw[if_pos c,if_pos ⟨by omega,c.2⟩]
    ·rw[if_neg c,if_neg (fun h=>?_)]
     by_cases c2:k+1<i
     ·exact c ⟨c2,h.2⟩
     ·have e:i=k+1:=by omega
      exact no k (by omega) (by rw[h.2,←e,hx])
   ·rw[List.getElem?_set,if_neg (by omega)]
    exact ih.rest q hq h
structure InB(P:Nat)(hs:List Int)(W i:Nat)(ws:List Int):Prop where
 len:ws.length=W
 pool:∀x:Nat,x<6->∃v,ws[P+x]?=some v∧isF hs ((x:Int)+1) i hs.length v
 link:∀k,k<hs.length->ws[P+6+k]?=some (if i<=k∧hs[k]?=hs[k+1]? then(k:Int)+2 else 0)
 rest:∀q,q<W->(q<P∨P+6+hs.length<=q)->ws[q]?=some 0
theorem inB(P:Nat){hs:List Int}(as:Asc hs){W:Nat}(hW:P+6+hs.length<=W):∀j,j<=hs.length->InB P hs W (hs.length-j) (iniB (P:Int) ((P:Int)+6) hs W j)
 |0,_=>by
  have z:∀q,q<W->(List.replicate W (0:Int))[q]?=some 0:=fun q hq=>by rw[List.getElem?_replicate,if_pos hq]
  exact⟨List.length_replicate,fun x hx=>⟨0,z _ (by omega),.inl ⟨rfl,fun j h1 h2=>by omega⟩⟩,fun k hk=>by rw[if_neg (by omega)];exact z _ (by omega),fun q hq _=>z q hq⟩
 |j+1,hj=>by
  have ih:=inB P as hW j (by omega)
  show InB P hs W (hs.length-(j+1)) (stepB (P:Int) ((P:Int)+6) hs (hs.length-1-j) (iniB (P:Int) ((P:Int)+6) hs W j))
  generalize iniB (P:Int) ((P:Int)+6) hs W j=ws at ih
  obtain⟨i,hi⟩:∃i,i=hs.length-(j+1):=⟨_,rfl⟩
  rw[←hi,show hs.length-1-j=i by omega]
  rw[show hs.length-j=i+1 by omega]at ih
  obtain⟨x,hx⟩:∃x,hs[i]?=some x:=⟨hs[i],List.getElem?_eq_getElem (by omega)⟩
  obtain⟨r1,r2⟩:=as.rng i x hx
  unfold stepB
  rw[hx]
  simp only[]
  obtain⟨y,hy,hy1⟩:∃y:Nat,x=(y:Int)+1∧y<6:=⟨(x-1).toNat,by omega,by omega⟩
  rw[show((P:Int)+6+((i:Int)+1) -1).toNat=P+6+i by omega,show((P:Int)+x-1).toNat=P+y by omega]
  obtain⟨v,hv,hf⟩:=ih.pool y hy1
  rw[List.getD_eq_getElem?_getD,hv,Option.getD_some]
  rw[←hy]at hf
  have hvv:v=if hs[i]?=hs[i+1]? then(i:Int)+2 else 0:=by
   rcases hf with⟨rfl,hf⟩|⟨k,a1,a2,a3,rfl,a4⟩
   ·rw[if_neg fun e=>?_]
    rw[hx]at e
    by_cases h1:i+1<hs.length
    ·exact hf (i+1) (Nat.le_refl _) h1 e.symm
    ·rw[List.getElem?_eq_none (by omega)]at e
     cases e
   ·obtain⟨z,hz⟩:∃z,hs[i+1]?=some z:=⟨hs[i+1],List.getElem?_eq_getElem (by omega)⟩
    have l1:=as.le i (i+1) x z (by omega) hx hz
    have l2:=as.le (i+1) k z x a1 hz a3
    have e1:z=x:=by omega
    rw[if_pos (by rw[hx,hz,e1])]
    by_cases e2:k=i+1
    ·omega
    ·exact absurd (by rw[hz,e1]) (a4 (i+1) (Nat.le_refl _) (by omega))
  refine⟨by rw[List.length_set,List.length_set];exact ih.len,fun q hq=>?_,fun k hk=>?_,fun q hq h=>?_⟩
  ·rw[List.getElem?_set]
   by_cases e:P+y=P+q
   ·rw[if_pos e,if_pos (by rw[List.length_set,ih.len];omega)]
    have e2:(q:Int)+1=x:=by omega
    exact⟨_,rfl,.inr ⟨i,Nat.le_refl _,by omega,by rw[e2];exact hx,rfl,fun j' h1 h2=>by omega⟩⟩
   ·rw[if_neg e,List.getElem?_set,if_neg (by omega)]
    obtain⟨u,hu,hg⟩:=ih.pool q hq
    refine⟨u,hu,?_⟩
    have ne:hs[i]?≠some ((q:Int)+1):=fun e2=>by
      rw[hx]at e2
      have:=Option.some.inj e2
      omega
    rcases hg with⟨rfl,hg⟩|⟨k,a1,a2,a3,rfl,a4⟩
    ·refine .inl ⟨rfl,fun j' h1 h2=>?_⟩
     by_cases e3:j'=i
     ·rw[e3];exact ne
     ·exact hg j' (by omega) h2
    ·refine .inr ⟨k,by omega,a2,a3,rfl,fun j' h1 h2=>?_⟩
     by_cases e3:j'=i
     ·rw[e3];exact ne
     ·exact a4 j' (by omega) h2
  ·rw[List.getElem?_set,if_neg (by omega),List.getElem?_set]
   by_cases e:P+6+i=P+6+k
   ·have e2:k=i:=by omega
    rw[if_pos e,if_pos (by rw[ih.len];omega),hvv,e2]
    by_cases c:hs[i]?=hs[i+1]?
    ·rw[if_pos c,if_pos ⟨Nat.le_refl _,c⟩]
    ·rw[if_neg c,if_neg fun h=>c h.2]
   ·rw[if_neg e,ih.link k hk]
    by_cases c:i+1<=k∧hs[k]?=hs[k+1]?
    ·rw[if_pos c,if_pos ⟨by omega,c.2⟩]
    ·rw[if_neg c,if_neg fun h=>c ⟨by omega,h.2⟩]
  ·rw[List.getElem?_set,if_neg (by omega),List.getElem?_set,if_neg (by omega)]
   exact ih.rest q hq h
theorem ini_eq(P:Nat){hs:List Int}(as:Asc hs){W:Nat}(hW:P+6+hs.length<=W):iniA (P:Int) ((P:Int)+6) hs W hs.length=iniB (P:Int) ((P:Int)+6) hs W hs.length:=by
 have a:=inA P as hW hs.length (Nat.le_refl _)
 have b:=inB P as hW hs.length (Nat.le_refl _)
 rw[Nat.sub_self]at b
 generalize iniA (P:Int) ((P:Int)+6) hs W hs.length=u at a
 generalize iniB (P:Int) ((P:Int)+6) hs W hs.length=w at b
 refine List.ext_getElem? fun q=>?_
 by_cases hq:q<W
 ·by_cases h1:q<P∨P+6+hs.length<=q
  ·rw[a.rest q hq h1,b.rest q hq h1]
  ·by_cases h2:q<P+6
   ·obtain⟨v,hv,hf⟩:=a.pool (q-P) (by omega)
    obtain⟨v',hv',hf'⟩:=b.pool (q-P) (by omega)
    rw[show P+(q-P)=q by omega]at hv hv'
    rw[hv,hv',hf.uniq hf']
   ·have l1:=a.link (q-(P+6)) (by omega)
    have l2:=b.link (q-(P+6)) (by omega)
    rw[show P+6+(q-(P+6))=q by omega]at l1 l2
    rw[l1,l2]
    obtain⟨k,hk⟩:∃k,k=q-(P+6):=⟨_,rfl⟩
    rw[←hk]
    have hkl:k<hs.length:=by omega
    by_cases c:hs[k]?=hs[k+1]?
    ·have c2:k+1<hs.length:=by
      rw[List.getElem?_eq_getElem hkl]at c
      have:=List.getElem?_eq_some_iff.1 c.symm
      exact this.1
     rw[if_pos ⟨c2,c⟩,if_pos ⟨Nat.zero_le _,c⟩]
    ·rw[if_neg fun h=>c h.2,if_neg fun h=>c h.2]
 ·rw[List.getElem?_eq_none (by rw[a.len];omega),List.getElem?_eq_none (by rw[b.len];omega)]
theorem htL_pair:∀(ts:List Int) (i:Int),(htL i ts).Pairwise (·<=·)
 | [],i=>by simp[htL]
 |t::l,i=>by
  unfold htL
  refine List.pairwise_append.2 ⟨?_,htL_pair l (i+1),fun a ha b hb=>?_⟩
  ·exact List.pairwise_replicate.2 (.inr (Int.le_refl _))
  ·have h1:=(List.mem_replicate.1 ha).2
   have h2:=htL_mem l (i+1) b hb
   omega
theorem asc_hsL(c:CfgT):Asc (hsL c):=by
 refine⟨fun j x hx=>hsL_mem x (List.mem_of_getElem? hx),fun i j x y hij hx hy=>?_⟩
 rcases Nat.lt_or_eq_of_le hij with h|h
 ·obtain⟨h1,rfl⟩:=List.getElem?_eq_some_iff.1 hx
  obtain⟨h2,rfl⟩:=List.getElem?_eq_some_iff.1 hy
  exact List.pairwise_iff_getElem.1 (htL_pair _ _) i j h1 h2 h
 ·subst h
  rw[hx]at hy
  exact Int.le_of_eq (Option.some.inj hy)
theorem ini_same{c:CfgT}(hp:PlOK c (plOf c))(hs:0<=c.slots){W:Nat}(hW:(plOf c).wo=(W:Int)){u w:List Int}(hu:IniOK c W u)(hw:IniB c W w):u=w:=by
 have h1:=hp.po
 have h2:=hp.li
 have e:(plOf c).li=(plOf c).po+6:=rfl
 obtain⟨P,hP⟩:∃P:Nat,(plOf c).po=(P:Int):=⟨(plOf c).po.toNat,by omega⟩
 unfold IniOK at hu
 unfold IniB at hw
 rw[e,hP]at hu hw
 rw[hu,hw]
 exact ini_eq P (asc_hsL c) (by omega)
@[go_sem]def c7:CF:=⟨2,(Sq [b 4 0] (Qq (Sq [a 5 1,K 6 3 5 1] (Kq 6 [b 4 0] .skip)) (Rq [a 7 0,a 8 1,zb 9 3 7 8,a 10 1,qf 11 3 9 10,a 12 1,zb 13 3 11 12,a 4 13]))),[.tmp 4]⟩
@[go_sem]def c6:CF:=⟨4,(Sq [w 4 33 0,G 8] (Qq (.drw ⟨[([S 0 4 0,k 1 9 0,g 3 1,g 4 2,g 5 3,S 7 4 1,k 8 16 7,n 9 17 8,j 10 18 9 1,k 11 19 10,g 12 1,g 13 2,g 14 3],some (qg 2 10 1 24)),([],some (qp 6 11 2 12 3 13 4 14 5 25)),([],some (qp 15 20 11 21 12 22 13 23 14 26)),([jf 16 15 6 24 15 54,y 17 25 16],none)],[(0,9),(1,10),(2,11),(3,12),(4,13),(5,14),(6,15),(7,16),(8,17),(9,18),(10,19),(11,20),(12,21),(13,22),(14,23),(15,24),(16,25),(17,8)],[(⟨8,[(16,(some 7))],none,.r (.ld none (.t 16))⟩,[1,2]),(⟨11,[(19,(some 10))],none,.r (.ld none (.t 19))⟩,[1,2])]⟩) .ret)),[.tmp 8]⟩
@[go_sem]def c24:CF:=⟨1,(Sq [p 2] (Qq (Sq [a 3 0,u 4 30 3] (Kq 4 [p 2] .skip)) (Rq [a 5 0,m 6 5,d 7 0 6,d 8 1 7,i 9 8,a 2 9]))),[.tmp 2]⟩
def modN(i n:Int):Int:=(i.tmod n+n).tmod n
theorem modN_bd(i:Int){n:Int}(h:1<=n):0<=modN i n∧modN i n<n:=by
 have a1:-n<Int.tmod i n:=Int.lt_tmod_of_pos i (by omega)
 exact⟨Int.tmod_nonneg _ (by omega),Int.tmod_lt_of_pos _ (by omega)⟩
theorem w7(P:Program){call:CallE}{h:H}(i n:Int)(h1:1<=n)(h2:n<=1000000):WF P call c7 [.int .i64 i,.int .i64 n] h fun v h'=>v=.int .i64 (modN i n)∧h'=h:=by
 have e1:¬n<1:=by omega
 have a1:-n<Int.tmod i n:=Int.lt_tmod_of_pos i (by omega)
 have a2:Int.tmod i n<n:=Int.tmod_lt_of_pos i (by omega)
 have f1:fw .i64 (Int.tmod i n+n)=Int.tmod i n+n:=fwI (by omega) (by omega)
 have z:¬n=0:=by omega
 simp only[go_sem,seval,e1,f1,z]
 rfl
def F7(call:CallE):Prop:=∀h (i n:Int),1<=n->n<=1000000->call 7 [.int .i64 i,.int .i64 n] h=some (.int .i64 (modN i n),h)
theorem w24{h:H}{B L M Q T' R:Nat}{ev x V G:AV}(g:h.t.get B=some (rowL [.ptr L 0,.ptr M 0,.ptr Q 0,.ptr T' 0,.ptr R 0,x,ev,V,G] 100)):WF P call c24 [.ptr B 0] h fun v h'=>v=.ptr M 0∧h'=h:=by
 simp only[go_sem,seval,g]
def F24(call:CallE):Prop:=∀h B L M Q T' R ev x V G,h.t.get B=some (rowL [.ptr L 0,.ptr M 0,.ptr Q 0,.ptr T' 0,.ptr R 0,x,ev,V,G] 100)->call 24 [.ptr B 0] h=some (.ptr M 0,h)
theorem w6(h24:F24 call)(h25:F25 call)(h26:F26 call){h:H}{A B L M Q T' R W L2 M2 W2:Nat}{x ev V G lv lv2:AV}{rest:List AV}{ws:List Int}{l l2:List AccT}
 (gA:h.t.get A=some (rowL [.ptr L 0,.ptr M 0,.ptr Q 0,.ptr T' 0,.ptr R 0,x,ev,V,G] 100)) (lA:A<h.next) (m:MemL h M W lv ws l) (hl:l.length<=900000)
 (gB:h.t.get B=some (rowL (.ptr L2 0::.ptr M2 0::rest) 49)) (lB:B<h.next) (m2:RMemL h M2 W2 lv2 ws l2) (hl2:l2.length<=900000)
 (dA:¬memS M W lv A) (dB:¬memS M W lv B) (d2:∀b,memS M2 W2 lv2 b->¬memS M W lv b)
 {t:Int} (t0:0<=t) (t1:t<64) {i:Nat} {y z:Int} (hx:ws[i]?=some y):
 WF P call c6 [.agg [.ptr A 0,.ptr B 0],.int .i64 t,.int .i64 (i:Int),.int .u64 z] h fun v h'=>v=.bool true∧∃lv' lv2',MemL h' M W lv' (ws.set i z) (l++[⟨t,(i:Int),2,y,z,false⟩])∧RMemL h' M2 W2 lv2' (ws.set i z) (l2++[⟨t,(i:Int),2,y,z,false⟩])∧(∀b,own lv'=some b->h.next<=b)∧(∀b,own lv2'=some b->h.next<=b∧own lv'≠some b)∧Tch (fun b=>memS M W lv b∨memS M2 W2 lv2 b) h h':=by
 have st0:=StepN.new h (.row (putList 0 [.ptr A 0,.ptr B 0] T.e) 2 33)
 have k24:=h24 ⟨h.next+1,h.t.set h.next (.row (putList 0 [.ptr A 0,.ptr B 0] T.e) 2 33)⟩ A L M Q T' R ev x V G ((st0.old A lA).trans gA)
 have nB:¬B=h.next:=by omega
 have k25:=h25 ⟨h.next+1,h.t.set h.next (.row (putList 0 [.ptr A 0,.ptr B 0] T.e) 2 33)⟩ M W lv ws l t i y z (m.step st0) (by omega) t0 t1 hx
 simp only[go_sem,seval,k24,gB,nB]
 refine opt_by k25 fun v1 h1 p1=>?_
 obtain⟨rfl,lv',m1,lo1,st1⟩:=p1
 have gB1:=st1.old B (by show B<h.next+1;omega) dB
 simp only[go_sem,seval,nB,gB]at gB1
 have nx1:h.next+1<=h1.next:=st1.next
 have m2':RMemL h1 M2 W2 lv2 ws l2:=(m2.step st0).keep nx1 fun b hb hs=>st1.old b hb (d2 b hs)
 simp only[go_sem,seval,gB1,gB,nB,nx1]
 refine opt_by (h26 h1 M2 W2 lv2 ws l2 t i y z m2' (by omega) t0 t1 hx) fun v2 h2 p2=>?_
 obtain⟨rfl,lv2',m3,lo2,st2⟩:=p2
 have nx2:h1.next<=h2.next:=st2.next
 have dM:∀b,memS M W lv' b->b<h1.next->¬memS M2 W2 lv2 b:=fun b hb hlt hs=>by
  have hs0:=d2 b hs
  rcases hb with rfl|rfl|hb
  ·exact hs0 (.inl rfl)
  ·exact hs0 (.inr (.inl rfl))
  ·have q1:=lo1 b hb
   have q2:b<h.next:=by
        rcases hs with rfl|rfl|hs
        ·exact m2.lM
        ·exact m2.lW
        ·exact m2.l.lt hs
   have q1':h.next+1<=b:=q1
   omega
 have gN1:=st1.old h.next (by show h.next<h.next+1;omega) fun hs=>by
  rcases hs with e|e|e
  ·have:=m.lM;omega
  ·have:=m.lW;omega
  ·have:=m.l.lt e;omega
 simp only[go_sem,seval]at gN1
 simp only[go_sem,seval,nx2,gN1,gB1,gB,nB]
 refine⟨lv',lv2',m1.keep nx2 fun b hb hs=>st2.old b hb (dM b hs hb),m3,fun b hb=>Nat.le_trans (Nat.le_succ _) (lo1 b hb),fun b hb=>⟨by have q:=lo2 b hb;omega,fun e=>by have q:=lo2 b hb;have q2:=m1.l.lt e;omega⟩,⟨by omega,fun b hb hn=>?_⟩⟩
 have q1:=st2.old b (by omega) fun e=>hn (.inr e)
 have q2:=st1.old b (by show b<h.next+1;omega) fun e=>hn (.inl e)
 exact q1.trans (q2.trans (st0.old b hb))
@[go_sem]def c100:CF:=⟨1,(Sq [b 2 0] (Rq [a 3 0,m 4 3,d 5 5 4,i 6 5,A 7 6,qo 8 3 7 1,⟨some 9,none,.p (.mm true (.c (.int .i64 0)) [.t 8])⟩,a 2 9])),[.tmp 2]⟩
@[go_sem]def c30:CF:=⟨4,(.drw ⟨[([g 0 0,g 1 0,n 2 9 1,j 3 10 2 6,k 4 11 3,g 5 0,g 7 1,g 8 2,g 9 3],some (qg 6 13 5 100)),([jg 10 14 6 15 7 16 8 17 9 0 0 0 0 0 1 1 1 2 1 3 1,jh 11 18 10 231 4 1 0 0 0 0 0 4],some (qQ 12 12 4 19 11 231 4 32)),([n 13 8 0,j 14 21 13 6],some (R 15 22 14 20 12 1)),([],none)],[(0,8),(1,9),(2,10),(3,11),(4,12),(5,13),(6,14),(7,15),(8,16),(9,17),(10,18),(11,19),(12,20),(13,21),(14,22)],[(⟨4,[(11,(some 3))],none,.r (.ld none (.t 11))⟩,[1])]⟩),[]⟩
@[go_sem]def c32:CF:=⟨4,(.drw ⟨[([g 0 0,g 1 0,n 2 9 1,j 3 10 2 8,k 4 11 3,g 5 0,n 6 13 5,j 7 14 6 5,k 8 15 7,g 9 1,g 10 2,g 11 3,jg 12 16 8 17 9 18 10 19 11 0 0 0 0 0 1 1 1 2 1 3 1,jh 13 20 12 231 4 1 0 0 0 0 0 4],some (qQ 14 12 4 21 13 231 4 32)),([n 15 8 0,j 16 23 15 8],some (R 17 24 16 22 14 1)),([],none)],[(0,8),(1,9),(2,10),(3,11),(4,12),(5,13),(6,14),(7,15),(8,16),(9,17),(10,18),(11,19),(12,20),(13,21),(14,22),(15,23),(16,24)],[(⟨4,[(11,(some 3))],none,.r (.ld none (.t 11))⟩,[0]),(⟨8,[(15,(some 7))],none,.r (.ld none (.t 15))⟩,[0])]⟩),[]⟩
theorem w100{h:H}{B:Nat}{cs:List AV}(g:h.t.get B=some (rowL cs 100))(h5:cs[5]?=some .nils):WF P call c100 [.ptr B 0] h fun v h'=>v=.int .i64 0∧h'=h:=by
 have f:fw .i64 (0-1)=-1:=rfl
 have k:mmA true (AV.int .i64 0) [AV.int .i64 (-1)]=some (.int .i64 0):=rfl
 simp only[go_sem,↓reduceIte,↓reduceDIte,Nat.reduceAdd,Nat.reduceMul,Nat.reduceLT,Nat.reduceEqDiff,Nat.reduceLeDiff,Int.reduceAdd,Int.reduceLE,Int.reduceLT,Int.reduceEq,Int.reduceToNat,reduceCtorEq,g,h5,f,k]
def F100(call:CallE):Prop:=∀h B cs,h.t.get B=some (rowL cs 100)->cs[5]?=some .nils->call 100 [.ptr B 0] h=some (.int .i64 0,h)
structure EvT where
 st:Int
 th:Int
 kd:Int
 va:Int
def evC(e:EvT):List AV:=[.int .i64 e.st,.int .i64 e.th,.int .u8 e.kd,.int .u64 e.va]
def evL(l:List EvT):List AV:=l.flatMap evC
theorem evL_app(l m:List EvT):evL (l++m)=evL l++evL m:=List.flatMap_append
theorem app_ev{HH:H}{lv:AV}{len:Nat}{cs src:List AV}{K:AV×H->Prop}(o:Own 4 231 HH lv len cs)(hs:src.length=4)(hl:len<=1000000)
 (hK:∀X:H,X.next=HH.next+1->Own 4 231 X (.sl HH.next 0 (len+1) 4 none) (len+1) (cs++src)->(∀b,b<HH.next->own lv≠some b->X.t.get b=HH.t.get b)->K (.sl HH.next 0 (len+1) 4 none,X)):@optI _ (appA HH 231 4 32 lv 1 src) ⟨K⟩:=
 opt_some (appA_own o (by decide) (by decide) (by omega) (by omega)) (hK _ rfl (own_app o (by decide) hs) fun b hb hn=>app_get hb hn)
theorem w30(h100:F100 call){h:H}{B:Nat}{cs:List AV}{ev:AV}{l:List EvT}(g:h.t.get B=some (rowL cs 100))(lB:B<h.next)(hc:cs.length=9)(h5:cs[5]?=some .nils)(h6:cs[6]?=some ev)(oe:Own 4 231 h ev l.length (evL l))(nB:own ev≠some B)(hl:l.length<=1000000){t k v:Int}:
 WF P call c30 [.ptr B 0,.int .i64 t,.int .u8 k,.int .u64 v] h fun v' h'=>v'=.tup []∧∃ev',h'.t.get B=some (rowL (cs.set 6 ev') 100)∧Own 4 231 h' ev' (l.length+1) (evL (l++[⟨0,t,k,v⟩]))∧own ev'≠some B∧(∀b,own ev'=some b->h.next<=b)∧Tch (fun b=>b=B∨own ev=some b) h h':=by
 have ov:=oe.one
 have k100:=h100 h B cs g h5
 have st0:=StepN.new h (.row (putList 0 [.int .i64 0,.int .i64 t,.int .u8 k,.int .u64 v] T.e) 4 231)
 have ea:evL (l++[⟨0,t,k,v⟩])=evL l++[AV.int .i64 0,AV.int .i64 t,AV.int .u8 k,AV.int .u64 v]:=by rw[evL_app];rfl
 have B1:¬B=h.next:=by omega
 simp only[go_sem,seval,g,h6,k100,hc,ov]
 refine app_ev (oe.keep st0.next fun b hb=>st0.old b (oe.lt hb)) rfl hl fun X nX oX kX=>?_
 replace nX:X.next=h.next+2:=nX
 have gB1:=kX B (by show B<h.next+1;omega) nB
 simp only[go_sem,seval,B1,g]at gB1
 have nX1:h.next+1<=X.next:=by omega
 have gN:=kX h.next (by show h.next<h.next+1;omega) fun e=>absurd (oe.lt e) (Nat.lt_irrefl _)
 simp only[go_sem,seval]at gN
 simp only[go_sem,seval,gB1,g,B1,nX1,gN,hc,ov]
 refine⟨h6,.sl (h.next+1) 0 (l.length+1) 4 none,by unfold rowL;rw[List.length_set,hc],?_,fun e=>?_,fun b hb=>?_,⟨by show h.next<=X.next;omega,fun b hb hn=>?_⟩⟩
 ·rw[ea]
  refine oX.keep (Nat.le_refl _) fun b hb=>?_
  have q1:h.next+1=b:=Option.some.inj hb
  have q2:¬b=B:=by omega
  simp only[go_sem,seval,q2]
 ·have q1:h.next+1=B:=Option.some.inj e
  omega
 ·have q1:h.next+1=b:=Option.some.inj hb
  omega
 ·have q1:¬b=B:=fun e=>hn (.inl e)
  have q2:=kX b (by show b<h.next+1;omega) fun e=>hn (.inr e)
  have q3:¬b=h.next:=by omega
  simp only[go_sem,seval,q3]at q2
  simp only[go_sem,seval,q1,q2]
theorem w32{h:H}{B:Nat}{cs:List AV}{ev:AV}{l:List EvT}(g:h.t.get B=some (rowL cs 49))(lB:B<h.next)(hc:cs.length=12)(h5:cs[5]?=some (.int .i64 0))(h6:cs[8]?=some ev)(oe:Own 4 231 h ev l.length (evL l))(nB:own ev≠some B)(hl:l.length<=1000000){t k v:Int}:
 WF P call c32 [.ptr B 0,.int .i64 t,.int .u8 k,.int .u64 v] h fun v' h'=>v'=.tup []∧∃ev',h'.t.get B=some (rowL (cs.set 8 ev') 49)∧Own 4 231 h' ev' (l.length+1) (evL (l++[⟨0,t,k,v⟩]))∧own ev'≠some B∧(∀b,own ev'=some b->h.next<=b)∧Tch (fun b=>b=B∨own ev=some b) h h':=by
 have ov:=oe.one
 have st0:=StepN.new h (.row (putList 0 [.int .i64 0,.int .i64 t,.int .u8 k,.int .u64 v] T.e) 4 231)
 have ea:evL (l++[⟨0,t,k,v⟩])=evL l++[AV.int .i64 0,AV.int .i64 t,AV.int .u8 k,AV.int .u64 v]:=by rw[evL_app];rfl
 have B1:¬B=h.next:=by omega
 simp only[go_sem,seval,g,h5,h6,hc,ov]
 refine app_ev (oe.keep st0.next fun b hb=>st0.old b (oe.lt hb)) rfl hl fun X nX oX kX=>?_
 replace nX:X.next=h.next+2:=nX
 have gB1:=kX B (by show B<h.next+1;omega) nB
 simp only[go_sem,seval,B1,g]at gB1
 have nX1:h.next+1<=X.next:=by omega
 have gN:=kX h.next (by show h.next<h.next+1;omega) fun e=>absurd (oe.lt e) (Nat.lt_irrefl _)
 simp only[go_sem,seval]at gN
 simp only[go_sem,seval,gB1,g,B1,nX1,gN,hc,ov,h5]
 refine⟨h6,.sl (h.next+1) 0 (l.length+1) 4 none,by unfold rowL;rw[List.length_set,hc],?_,fun e=>?_,fun b hb=>?_,⟨by show h.next<=X.next;omega,fun b hb hn=>?_⟩⟩
 ·rw[ea]
  refine oX.keep (Nat.le_refl _) fun b hb=>?_
  have q1:h.next+1=b:=Option.some.inj hb
  have q2:¬b=B:=by omega
  simp only[go_sem,seval,q2]
 ·have q1:h.next+1=B:=Option.some.inj e
  omega
 ·have q1:h.next+1=b:=Option.some.inj hb
  omega
 ·have q1:¬b=B:=fun e=>hn (.inl e)
  have q2:=kX b (by show b<h.next+1;omega) fun e=>hn (.inr e)
  have q3:¬b=h.next:=by omega
  simp only[go_sem,seval,q3]at q2
  simp only[go_sem,seval,q1,q2]
@[go_sem]def c432:CF:=⟨2,(Sq [b 4 0] (Qq (.block 0 (Sq [a 6 0,u 7 327 6,a 5 7] (Kq 5 [b 4 1] (Sq [a 9 1,K 10 3 9 0,a 11 10,s 12 11 1,qn 13 11 3 12 64,r 14 11 13,a 8 14] (Kq 8 [b 4 2] .skip))))) (Rq [b 4 0]))),[.tmp 4]⟩
@[go_sem]def c429:CF:=⟨3,(Sq [b 6 0] (Qq (Sq [a 8 0,a 9 1,Z 10 432 8 9,a 7 10] (Sq [a 11 7,z 12 54 11 0] (Kq 12 [a 13 7,a 6 13] .skip))) (Qq (Sq [a 14 2,K 15 3 14 0,a 16 15,s 17 16 2,s 18 16 0,qi 19 16 18,M 20 16 2 19,L 21 16 20,qO 22 16 21,qw 23 16 3 17 22,r 24 16 23] (Kq 24 [b 6 3] .skip)) (Rq [b 6 0])))),[.tmp 6]⟩
@[go_sem]def c430:CF:=⟨2,(Sq [G 4] (Rq [a 5 0,m 6 5,d 7 2 6,i 8 7,a 9 1,E 10 1 8 9,i 11 10,ji 12 51 11 2,jj 13 51 12 1,a 4 13])),[.tmp 4]⟩
@[go_sem]def c428:CF:=⟨3,(Sq [a 6 0,m 7 6,d 8 2 7,i 9 8,a 10 2,E 11 1 9 10,i 12 11,zl 13 51 12 1,E 14 1 9 10,t 1 14 13] (.drw ⟨[([g 0 0,n 1 15 0,j 2 16 1 0,k 3 17 2,g 4 1,g 5 0,n 6 20 5,j 7 21 6 1,k 8 22 7,g 9 2,qz 10 23 8 24 9 3,g 11 0,n 12 26 11,j 13 27 12 2,k 14 28 13,g 15 2,Q 16 29 14 30 15 1,k 17 31 16],some (qp 18 18 3 19 4 25 10 32 17 25)),([],none)],[(0,15),(1,16),(2,17),(3,18),(4,19),(5,20),(6,21),(7,22),(8,23),(9,24),(10,25),(11,26),(12,27),(13,28),(14,29),(15,30),(16,31),(17,32),(18,33)],[]⟩)),[]⟩
@[go_sem]def c424:CF:=⟨4,(Sq [p 8,b 9 0] (Qq (Sq [a 12 0,a 13 1,a 14 2,qa 15 429 12 13 14,a 10 15] (Sq [a 16 10,z 17 54 16 0] (Kq 17 [a 18 10,p 8,a 9 18] .skip))) (Qq (Sq [a 19 3,K 20 3 19 0,a 21 20,s 22 21 3,qn 23 21 3 22 64,r 24 21 23] (Kq 24 [p 8,b 9 2] .skip)) (Qq (Sq [a 25 0,m 26 25,d 27 3 26,i 28 27,a 29 2,E 30 1 28 29,i 31 30,a 32 31,s 33 32 0,s 34 32 2,jk 35 32 430 33 34,r 36 32 35] (Kq 36 [p 8,b 9 8] .skip)) (Sq [a 37 0,m 38 37,d 39 3 38,i 40 39,a 41 2,E 42 1 40 41,qE 1 42] (Sq [a 43 0,a 44 1,a 45 2,⟨some 46,none,.p (.build [.nilp,.int .i64 0,.int .i64 0,.nilf] [(0,1,.t 43),(1,1,.t 44),(2,1,.t 45)])⟩,w 47 578 46,a 11 47] (Sq [a 48 11,a 49 11,⟨some 50,none,.p (.mkfn (.func 431) [.t 49] [])⟩,m 51 48,d 52 3 51,t 1 52 50] (Rq [a 53 11,a 8 53,b 9 0])))))))),[.tmp 8,.tmp 9]⟩
@[go_sem]def c431:CF:=⟨1,(Sq [v 2 0] (Qq (.drw ⟨[([g 0 0,n 1 3 0,j 2 4 1 0,k 3 5 2,g 4 0,n 5 7 4,j 6 8 5 1,k 7 9 6,g 8 0,n 9 11 8,j 10 12 9 2,k 11 13 10],some (qL 12 6 3 10 7 14 11 428)),([],none)],[(0,3),(1,4),(2,5),(3,6),(4,7),(5,8),(6,9),(7,10),(8,11),(9,12),(10,13),(11,14),(12,15)],[]⟩) (Qq (.drw ⟨[([g 0 0,n 1 16 0,j 2 17 1 0,k 3 18 2,n 4 19 3,j 5 20 4 3,k 6 21 5,g 7 0,n 8 23 7,j 9 24 8 2,k 10 25 9,Q 11 22 6 26 10 1],some (jl 12 27 11 1)),([],none)],[(0,16),(1,17),(2,18),(3,19),(4,20),(5,21),(6,22),(7,23),(8,24),(9,25),(10,26),(11,27)],[]⟩) (Sq [a 28 0,m 29 28,d 30 3 29,⟨none,none,.e (.st 1 (.t 30) (.c .nilf))⟩] (Rq [v 2 13]))))),[.tmp 2]⟩
@[go_sem]def c555:CF:=⟨1,(Sq [v 2 0,G 3] (Qq (Sq [a 4 0,u 5 576 4,a 6 5,s 7 6 0,qi 8 6 7,M 9 6 3 8,L 10 6 9,jm 11 6 78 10,r 12 6 11] (Kq 12 [v 2 0,G 3] .skip)) (Rq [a 13 0,m 14 13,d 15 3 14,i 16 15,⟨some 17,none,.cv (.t 16) []⟩,a 2 17,qx 3]))),[.tmp 2,.tmp 3]⟩
@[go_sem]def c554:CF:=⟨1,(Sq [v 2 0] (Qq (Sq [a 3 0,u 4 576 3,a 5 4,s 6 5 0,qi 7 5 6,M 8 5 3 7,L 9 5 8,jm 10 5 78 9,r 11 5 10] (Kq 11 [v 2 0] .skip)) (Rq [v 2 13]))),[.tmp 2]⟩
structure FullE(h:H)(M n bs G N B:Nat)(nu:List Int)(bg:List Bool):Prop where
 gG:h.t.get G=some (rowL [.ptr M 0,.int .i64 (bs:Int),.sl N 0 n 1 (some n),.sl B 0 n 1 (some n)] 427)
 gN:h.t.get N=some (.row (putList 0 (uL nu) T.e) n 51)
 gB:h.t.get B=some (.row (putList 0 (bg.map AV.bool) T.e) n 4)
 ln:nu.length=n
 lb:bg.length=n
 lG:G<h.next
 lN:N<h.next
 lB:B<h.next
theorem FullE.keep{h h':H}{M n bs G N B:Nat}{nu:List Int}{bg:List Bool}(m:FullE h M n bs G N B nu bg)(hn:h.next<=h'.next)(k:∀b,b=G∨b=N∨b=B->h'.t.get b=h.t.get b):FullE h' M n bs G N B nu bg:=
 ⟨(k G (.inl rfl)).trans m.gG,(k N (.inr (.inl rfl))).trans m.gN,(k B (.inr (.inr rfl))).trans m.gB,m.ln,m.lb,Nat.lt_of_lt_of_le m.lG hn,Nat.lt_of_lt_of_le m.lN hn,Nat.lt_of_lt_of_le m.lB hn⟩
theorem rowL_ne{h:H}{a b:Nat}{c c':T AV}{n n':Nat}{e e':TypeId}(g:h.t.get a=some (.row c n e))(g':h.t.get b=some (.row c' n' e'))(hne:e≠e'):a≠b:=fun e1=>by
 subst e1
 rw[g]at g'
 simp at g'
 exact hne g'.2.2
theorem w432{h:H}{G:Nat}{t:Int}(t0:0<=t)(t1:t<64):WF P call c432 [.ptr G 0,.int .i64 t] h fun v h'=>v=.int .i64 0∧h'=h:=by
 have e1:¬t<0:=by omega
 have e2:¬(64:Int)<=t:=by omega
 simp only[go_sem,seval,e1,e2,t1]
def FThr(call:CallE)(f:FuncId):Prop:=∀h G (t:Int),0<=t->t<64->call f [.ptr G 0,.int .i64 t] h=some (.int .i64 0,h)
theorem w429(h432:FThr call 432){h:H}{M n bs G N B:Nat}{nu:List Int}{bg:List Bool}(m:FullE h M n bs G N B nu bg){t:Int}(t0:0<=t)(t1:t<64){s:Nat}(hs:s<n):WF P call c429 [.ptr G 0,.int .i64 t,.int .i64 (s:Int)] h fun v h'=>v=.int .i64 0∧h'=h:=by
 have k:=h432 h G t t0 t1
 have gG:=m.gG
 have e1:¬(s:Int)<0:=by omega
 have e2:¬(n:Int)<=(s:Int):=by omega
 have e3:(s:Int)<(n:Int):=by omega
 simp only[go_sem,seval,k,gG,e1,e2,e3]
def F429(call:CallE):Prop:=∀h M n bs G N B nu bg (t:Int) (s:Nat),FullE h M n bs G N B nu bg->0<=t->t<64->s<n->call 429 [.ptr G 0,.int .i64 t,.int .i64 (s:Int)] h=some (.int .i64 0,h)
theorem uL_get{nu:List Int}{s:Nat}{x:Int}(hx:nu[s]?=some x):(uL nu)[s]?=some (.int .u64 x):=by unfold uL;rw[List.getElem?_map,hx];rfl
theorem w430(P:Program){call:CallE}{h:H}{M n bs G N B:Nat}{nu:List Int}{bg:List Bool}(m:FullE h M n bs G N B nu bg){s:Nat}{x:Int}(hx:nu[s]?=some x)(x1:x=0∨x=1):WF P call c430 [.ptr G 0,.int .i64 (s:Int)] h fun v h'=>v=.bool (decide (x=1))∧h'=h:=by
 have gG:=m.gG
 have gN:=m.gN
 have hs:s<n:=by rw[←m.ln];exact(List.getElem?_eq_some_iff.1 hx).1
 have e2:(s:Int)<(n:Int):=by omega
 have hx1:=uL_get hx
 rcases x1 with rfl|rfl
 ·simp only[go_sem,↓reduceIte,↓reduceDIte,Nat.reduceAdd,Nat.reduceMul,Nat.reduceLT,Nat.reduceEqDiff,Nat.reduceLeDiff,Int.reduceAdd,Int.reduceLE,Int.reduceLT,Int.reduceEq,Int.reduceToNat,reduceCtorEq,gG,e2,Nat.mul_one,gN,hx1]
  rfl
 ·simp only[go_sem,↓reduceIte,↓reduceDIte,Nat.reduceAdd,Nat.reduceMul,Nat.reduceLT,Nat.reduceEqDiff,Nat.reduceLeDiff,Int.reduceAdd,Int.reduceLE,Int.reduceLT,Int.reduceEq,Int.reduceToNat,reduceCtorEq,gG,e2,Nat.mul_one,gN,hx1]
  rfl
def F430(call:CallE):Prop:=∀h M n bs G N B nu bg (s:Nat) (x:Int),FullE h M n bs G N B nu bg->nu[s]?=some x->(x=0∨x=1)->call 430 [.ptr G 0,.int .i64 (s:Int)] h=some (.bool (decide (x=1)),h)
def fullS(G N B:Nat)(b:Nat):Prop:=b=G∨b=N∨b=B
theorem w428(h25:F25 call){h:H}{M W n bs G N B:Nat}{nu:List Int}{bg:List Bool}{lv:AV}{ws:List Int}{l:List AccT}(m:FullE h M n bs G N B nu bg)(mm:MemL h M W lv ws l)(hl:l.length<=1000000)(hd:∀b,fullS G N B b->¬memS M W lv b)(hb:bs+n<=5000)
 {t:Int} (t0:0<=t) (t1:t<64) {s:Nat} {y:Int} (hx:nu[s]?=some 0) (hy:ws[bs+s]?=some y):
 WF P call c428 [.ptr G 0,.int .i64 t,.int .i64 (s:Int)] h fun v h'=>v=.tup []∧∃lv',MemL h' M W lv' (ws.set (bs+s) 1) (l++[⟨t,((bs+s:Nat):Int),2,y,1,false⟩])∧FullE h' M n bs G N B (nu.set s 1) bg∧(∀b,own lv'=some b->h.next<=b)∧Tch (fun b=>memS M W lv b∨b=N) h h':=by
 have gG:=m.gG
 have gN:=m.gN
 have hs:s<n:=by rw[←m.ln];exact(List.getElem?_eq_some_iff.1 hx).1
 have hs1:s<nu.length:=by rw[m.ln];exact hs
 have hul:=uL_len nu
 have e2:(s:Int)<(n:Int):=by omega
 have hx1:=uL_get hx
 have GN:¬G=N:=rowL_ne gG gN (by decide)
 have BN:¬B=N:=rowL_ne m.gB gN (by decide)
 have f1:fw .u64 1=1:=rfl
 have f2:fw .i64 ((bs:Int)+(s:Int))=((bs+s:Nat):Int):=by rw[fwI (by omega) (by omega)];omega
 have hs2:s+1<=n:=hs
 have st0:Tch (fun b=>memS M W lv b∨b=N) h ⟨h.next,h.t.set N (.row (putList 0 ((uL nu).set s (.int .u64 1)) T.e) n 51)⟩:=⟨Nat.le_refl _,fun b hb hn=>by
  have e0:¬b=N:=fun e=>hn (.inr e)
  simp only[go_sem,seval,e0]⟩
 have mm1:MemL ⟨h.next,h.t.set N (.row (putList 0 ((uL nu).set s (.int .u64 1)) T.e) n 51)⟩ M W lv ws l:=mm.keep (Nat.le_refl _) fun b hb hS=>by
  have e0:¬b=N:=fun e=>hd N (.inr (.inl rfl)) (e▸hS)
  simp only[go_sem,seval,e0]
 have g1:(List.set (uL nu) s (.int .u64 1))[s]?=some (.int .u64 1):=by rw[List.getElem?_set_self (by rw[hul];exact hs1)]
 simp only[go_sem,seval,gG,e2,Nat.mul_one,gN,hx1,hul,hs1,hs2,f1,GN,f2,g1]
 refine opt_by (h25 _ M W lv ws l t (bs+s) y 1 mm1 hl t0 t1 hy) fun v1 h1 p1=>?_
 obtain⟨rfl,lv',m1,lo1,st1⟩:=p1
 have nx:h.next<=h1.next:=st1.next
 simp only[go_sem,seval,nx]
 have kp:∀b,fullS G N B b->b<h.next->h1.t.get b=(h.t.set N (.row (putList 0 ((uL nu).set s (.int .u64 1)) T.e) n 51)).get b:=fun b hb lb=>st1.old b lb (hd b hb)
 have k1:=kp G (.inl rfl) m.lG
 have k2:=kp N (.inr (.inl rfl)) m.lN
 have k3:=kp B (.inr (.inr rfl)) m.lB
 simp only[go_sem,seval,GN]at k1
 simp only[go_sem,seval]at k2
 simp only[go_sem,seval,BN]at k3
 refine⟨lv',m1,⟨k1.trans gG,by rw[k2,uL_set],k3.trans m.gB,by rw[List.length_set];exact m.ln,m.lb,Nat.lt_of_lt_of_le m.lG nx,Nat.lt_of_lt_of_le m.lN nx,Nat.lt_of_lt_of_le m.lB nx⟩,lo1,nx,fun b hb hn=>?_⟩
 exact(st1.old b hb fun e=>hn (.inl e)).trans (st0.old b hb hn)
def F428(call:CallE):Prop:=∀h M W n bs G N B nu bg lv ws l (t:Int) (s:Nat) (y:Int),FullE h M n bs G N B nu bg->MemL h M W lv ws l->l.length<=1000000->(∀b,fullS G N B b->¬memS M W lv b)->bs+n<=5000->0<=t->t<64->nu[s]?=some 0->ws[bs+s]?=some y->
    ∃v h',call 428 [.ptr G 0,.int .i64 t,.int .i64 (s:Int)] h=some (v,h')∧(v=.tup []∧∃lv',MemL h' M W lv' (ws.set (bs+s) 1) (l++[⟨t,((bs+s:Nat):Int),2,y,1,false⟩])∧FullE h' M n bs G N B (nu.set s 1) bg∧(∀b,own lv'=some b->h.next<=b)∧Tch (fun b=>memS M W lv b∨b=N) h h')
def PostEA(M n bs G N B:Nat)(nu:List Int)(s:Nat)(x t:Int)(h:H)(v:AV)(h':H):Prop:=
 (x=1∧v=.tup [.nilp,.int .i64 8]∧h'=h)∨(x=0∧∃X,v=.tup [.ptr X 0,.int .i64 0]∧h.next<=X∧X<h'.next∧h'.t.get X=some (rowL [.ptr G 0,.int .i64 t,.int .i64 (s:Int),.fn (.func 431) [.ptr X 0] []] 578)∧FullE h' M n bs G N B nu ((List.replicate n false).set s true)∧Tch (fun b=>b=B) h h')
theorem w424(h429:F429 call)(h430:F430 call){h:H}{M n bs G N B:Nat}{nu:List Int}(m:FullE h M n bs G N B nu (List.replicate n false)){t:Int}(t0:0<=t)(t1:t<64){s:Nat}{x:Int}(hx:nu[s]?=some x)(x1:x=0∨x=1):
 WF P call c424 [.ptr G 0,.int .i64 t,.int .i64 (s:Int),.int .i64 0] h (PostEA M n bs G N B nu s x t h):=by
 have gG:=m.gG
 have gB:=m.gB
 have hs:s<n:=by rw[←m.ln];exact(List.getElem?_eq_some_iff.1 hx).1
 have k1:=h429 h M n bs G N B nu _ t s m t0 t1 hs
 have k2:=h430 h M n bs G N B nu _ s x m hx x1
 have e2:(s:Int)<(n:Int):=by omega
 have hs2:s+1<=n:=hs
 have hb1:((List.replicate n false).map AV.bool)[s]?=some (.bool false):=by rw[List.getElem?_map,List.getElem?_replicate,if_pos hs];rfl
 have hbl:((List.replicate n false).map AV.bool).length=n:=by rw[List.length_map,List.length_replicate]
 have GB:¬G=B:=rowL_ne gG gB (by decide)
 have NB:¬N=B:=rowL_ne m.gN gB (by decide)
 have lG:=m.lG
 have lN:=m.lN
 have lB:=m.lB
 rcases x1 with rfl|rfl
 ·simp only[go_sem,seval,k1,gG,e2,Nat.mul_one,gB,hb1,k2,hbl,hs,hs2]
  have n1:¬G=h.next:=by omega
  have n2:¬N=h.next:=by omega
  have n3:¬B=h.next:=by omega
  refine .inr ⟨rfl,h.next,rfl,Nat.le_refl _,Nat.lt_succ_self _,by simp only[go_sem,seval];rfl,⟨by simp only[go_sem,seval,n1,GB];exact gG,by simp only[go_sem,seval,n2,NB];exact m.gN,by simp[go_sem,n3,List.map_set],m.ln,by rw[List.length_set,List.length_replicate],Nat.lt_succ_of_lt lG,Nat.lt_succ_of_lt lN,Nat.lt_succ_of_lt lB⟩,⟨Nat.le_succ _,fun b hb hn=>?_⟩⟩
  have n4:¬b=h.next:=by omega
  simp only[go_sem,seval,n4,hn]
 ·simp only[go_sem,seval,k1,gG,e2,Nat.mul_one,gB,hb1,k2]
  exact .inl ⟨rfl,rfl,rfl⟩
theorem w431(h428:F428 call){h:H}{M W n bs G N B X:Nat}{nu:List Int}{lv:AV}{ws:List Int}{l:List AccT}{t:Int}{s:Nat}{f:AV}(m:FullE h M n bs G N B nu ((List.replicate n false).set s true))(mm:MemL h M W lv ws l)(hl:l.length<=1000000)(hd:∀b,fullS G N B b∨b=X->¬memS M W lv b)(hb:bs+n<=5000)
 (gX:h.t.get X=some (rowL [.ptr G 0,.int .i64 t,.int .i64 (s:Int),f] 578)) (lX:X<h.next) (t0:0<=t) (t1:t<64) {y:Int} (hx:nu[s]?=some 0) (hy:ws[bs+s]?=some y):
 WF P call c431 [.ptr X 0] h fun v h'=>v=.int .u8 13∧∃lv',MemL h' M W lv' (ws.set (bs+s) 1) (l++[⟨t,((bs+s:Nat):Int),2,y,1,false⟩])∧FullE h' M n bs G N B (nu.set s 1) (List.replicate n false)∧h'.t.get X=some (rowL [.ptr G 0,.int .i64 t,.int .i64 (s:Int),.nilf] 578)∧(∀b,own lv'=some b->h.next<=b)∧Tch (fun b=>memS M W lv b∨fullS G N B b∨b=X) h h':=by
 have gG:=m.gG
 have gN:=m.gN
 have gB:=m.gB
 have hs:s<n:=by rw[←m.ln];exact(List.getElem?_eq_some_iff.1 hx).1
 have e2:(s:Int)<(n:Int):=by omega
 have hs2:s+1<=n:=hs
 have XG:¬X=G:=rowL_ne gX gG (by decide)
 have XN:¬X=N:=rowL_ne gX gN (by decide)
 have XB:¬X=B:=rowL_ne gX gB (by decide)
 have GX:¬G=X:=fun e=>XG e.symm
 have NX:¬N=X:=fun e=>XN e.symm
 have BX:¬B=X:=fun e=>XB e.symm
 have GB:¬G=B:=rowL_ne gG gB (by decide)
 have NB:¬N=B:=rowL_ne m.gN gB (by decide)
 simp only[go_sem,seval,gX]
 refine opt_by (h428 h M W n bs G N B nu _ lv ws l t s y m mm hl (fun b hb=>hd b (.inl hb)) hb t0 t1 hx hy) fun v1 h1 p1=>?_
 obtain⟨rfl,lv',m1,f1,lo1,st1⟩:=p1
 have gX1:=(st1.old X lX fun e=>e.elim (hd X (.inr rfl)) XN).trans gX
 have gG1:=f1.gG
 have gB1:=f1.gB
 have hbl:(((List.replicate n false).set s true).map AV.bool).length=n:=by rw[List.length_map,List.length_set,List.length_replicate]
 have nx1:=st1.next
 simp only[go_sem,seval,gX1,gG1,e2,Nat.mul_one,gB1,hbl,hs,hs2,XB,nx1]
 have dlv:∀b,b=B∨b=X->¬memS M W lv' b:=fun b hb hS=>by
  have lt:b<h.next:=by rcases hb with rfl|rfl;exact m.lB;exact lX
  rcases hS with e|e|e
  ·exact hd b (by rcases hb with rfl|rfl;exact .inl (.inr (.inr rfl));exact .inr rfl) (.inl e)
  ·exact hd b (by rcases hb with rfl|rfl;exact .inl (.inr (.inr rfl));exact .inr rfl) (.inr (.inl e))
  ·have:=lo1 b e
   omega
 refine⟨lv',m1.keep (Nat.le_refl _) fun b hb hS=>?_,⟨by simp only[go_sem,seval,GX,GB];exact gG1,by simp only[go_sem,seval,NX,NB];exact f1.gN,?_,f1.ln,List.length_replicate,f1.lG,f1.lN,f1.lB⟩,?_,lo1,nx1,fun b hb hn=>?_⟩
 ·have q1:¬b=X:=fun e=>dlv b (.inr e) hS
  have q2:¬b=B:=fun e=>dlv b (.inl e) hS
  simp only[go_sem,seval,q1,q2]
 ·simp only[go_sem,seval,BX]
  have e4:((List.replicate n false).set s true).set s false=List.replicate n false:=by
   rw[List.set_set]
   exact List.ext_getElem? fun i=>by
        by_cases hi:s=i
        ·subst hi
         rw[List.getElem?_set_self (by rw[List.length_replicate];exact hs),List.getElem?_replicate,if_pos hs]
        ·rw[List.getElem?_set_ne hi]
  have e5:(((List.replicate n false).set s true).map AV.bool).set s (AV.bool false)=(List.replicate n false).map AV.bool:=by rw[←List.map_set,e4]
  rw[e5]
 ·rfl
 ·have q1:¬b=X:=fun e=>hn (.inr (.inr e))
  have q2:¬b=B:=fun e=>hn (.inr (.inl (.inr (.inr e))))
  simp only[go_sem,seval,q1,q2]
  exact st1.old b hb fun e=>hn (e.elim .inl fun e=>.inr (.inl (.inr (.inl e))))
def PostSA(M W n bs G N B X:Nat)(nu:List Int)(lv:AV)(ws:List Int)(l:List AccT)(t:Int)(s:Nat)(y:Int)(h h':H):Prop:=
 ∃lv',MemL h' M W lv' (ws.set (bs+s) 1) (l++[⟨t,((bs+s:Nat):Int),2,y,1,false⟩])∧FullE h' M n bs G N B (nu.set s 1) (List.replicate n false)∧h'.t.get X=some (rowL [.ptr G 0,.int .i64 t,.int .i64 (s:Int),.nilf] 578)∧(∀b,own lv'=some b->h.next<=b)∧Tch (fun b=>memS M W lv b∨fullS G N B b∨b=X) h h'
def F431(call:CallE):Prop:=∀h M W n bs G N B X nu lv ws l (t:Int) (s:Nat) f (y:Int),FullE h M n bs G N B nu ((List.replicate n false).set s true)->MemL h M W lv ws l->l.length<=1000000->(∀b,fullS G N B b∨b=X->¬memS M W lv b)->bs+n<=5000->h.t.get X=some (rowL [.ptr G 0,.int .i64 t,.int .i64 (s:Int),f] 578)->X<h.next->0<=t->t<64->nu[s]?=some 0->ws[bs+s]?=some y->
    ∃v h',call 431 [.ptr X 0] h=some (v,h')∧(v=.int .u8 13∧PostSA M W n bs G N B X nu lv ws l t s y h h')
theorem w555(h431:F431 call){h:H}{M W n bs G N B X:Nat}{nu:List Int}{lv:AV}{ws:List Int}{l:List AccT}{t:Int}{s:Nat}(m:FullE h M n bs G N B nu ((List.replicate n false).set s true))(mm:MemL h M W lv ws l)(hl:l.length<=1000000)(hd:∀b,fullS G N B b∨b=X->¬memS M W lv b)(hb:bs+n<=5000)
 (gX:h.t.get X=some (rowL [.ptr G 0,.int .i64 t,.int .i64 (s:Int),.fn (.func 431) [.ptr X 0] []] 578)) (lX:X<h.next) (t0:0<=t) (t1:t<64) {y:Int} (hx:nu[s]?=some 0) (hy:ws[bs+s]?=some y):
 WF P call c555 [.ptr X 0] h fun v h'=>v=.tup [.int .u8 13,.bool true]∧PostSA M W n bs G N B X nu lv ws l t s y h h':=by
 simp only[go_sem,seval,gX,fnil]
 refine opt_by (h431 h M W n bs G N B X nu lv ws l t s _ y m mm hl hd hb gX lX t0 t1 hx hy) fun v1 h1 p1=>?_
 obtain⟨rfl,p1⟩:=p1
 simp only[go_sem,seval]
 exact p1
theorem w555b{h:H}{X:Nat}{a b c:AV}(gX:h.t.get X=some (rowL [a,b,c,.nilf] 578)):WF P call c555 [.ptr X 0] h fun v h'=>v=.tup [.int .u8 0,.bool false]∧h'=h:=by
 simp only[go_sem,seval,gX,fnil0]
theorem w554{h:H}{X:Nat}{a b c:AV}{f:Fn}{x y:List AV}(gX:h.t.get X=some (rowL [a,b,c,.fn f x y] 578)):WF P call c554 [.ptr X 0] h fun v h'=>v=.int .u8 13∧h'=h:=by
 simp only[go_sem,seval,gX,fnil]
@[go_sem]def c446:CF:=⟨2,(Sq [b 4 0] (Qq (Sq [a 5 0,u 6 334 5] (Kq 6 [b 4 1] .skip)) (Qq (Sq [a 7 1,K 8 3 7 0,a 9 8,s 10 9 1,qn 11 9 3 10 64,r 12 9 11] (Kq 12 [b 4 2] .skip)) (Rq [b 4 0])))),[.tmp 4]⟩
@[go_sem]def c445:CF:=⟨3,(Sq [p 6,b 7 0] (Qq (Sq [a 9 0,a 10 1,Z 11 446 9 10,a 8 11] (Sq [a 12 8,z 13 54 12 0] (Kq 13 [a 14 8,p 6,a 7 14] .skip))) (Qq (Sq [a 15 2,K 16 3 15 0,a 17 16,s 18 17 2,s 19 17 0,qi 20 17 19,M 21 17 1 20,L 22 17 21,qO 23 17 22,qw 24 17 3 18 23,r 25 17 24] (Kq 25 [p 6,b 7 3] .skip)) (Rq [a 26 0,m 27 26,d 28 1 27,i 29 28,a 30 2,E 31 2 29 30,a 6 31,b 7 0])))),[.tmp 6,.tmp 7]⟩
@[go_sem]def c237:CF:=⟨2,(Sq [b 3 0] (Rq [i 4 1,a 5 0,qq 6 3 2 5,qf 7 3 4 6,a 3 7])),[.tmp 3]⟩
@[go_sem]def c444:CF:=⟨3,(Sq [a 6 0,m 7 6,d 8 1 7,i 9 8,a 10 2,E 11 2 9 10,d 12 0 11,i 13 12,zl 14 51 13 1,E 15 2 9 10,d 16 0 15,t 1 16 14] (.drw ⟨[([g 0 0,n 1 17 0,j 2 18 1 0,k 3 19 2,g 4 1,g 5 0,n 6 22 5,j 7 23 6 2,k 8 24 7,g 9 2,g 11 0,n 12 28 11,j 13 29 12 1,k 14 30 13,g 15 2,Q 16 31 14 32 15 2,j 17 33 16 0,k 18 34 17],some (jn 10 25 8 26 9)),([],some (qp 19 20 3 21 4 27 10 35 18 25)),([],none)],[(0,17),(1,18),(2,19),(3,20),(4,21),(5,22),(6,23),(7,24),(8,25),(9,26),(10,27),(11,28),(12,29),(13,30),(14,31),(15,32),(16,33),(17,34),(18,35),(19,36)],[(⟨3,[(19,(some 2))],none,.r (.ld none (.t 19))⟩,[1]),(⟨14,[(30,(some 13))],none,.r (.ld none (.t 30))⟩,[1]),(⟨18,[(34,(some 17))],none,.r (.ld none (.t 34))⟩,[1])]⟩)),[]⟩
@[go_sem]def c440:CF:=⟨4,(Sq [p 8,b 9 0] (Sq [a 13 0,a 14 1,a 15 2,qa 16 445 13 14 15,a 12 16,o 17 12 0,o 18 12 1,a 10 17,a 11 18] (Qq (Sq [a 19 11,z 20 54 19 0] (Kq 20 [a 21 11,p 8,a 9 21] .skip)) (Qq (Sq [a 22 3,K 23 3 22 0,a 24 23,s 25 24 3,qn 26 24 3 25 64,r 27 24 26] (Kq 27 [p 8,b 9 2] .skip)) (Qq (Sq [a 28 10,m 29 28,d 30 1 29,i 31 30,a 32 31,s 33 32 10,qi 34 32 33,M 35 32 0 34,L 36 32 35,⟨some 37,some (32,false),.p (.bin .rem 51 false true (.t 36) (.c (.int .u64 2)))⟩,zX 38 32 51 37 1,r 39 32 38] (Kq 39 [p 8,b 9 8] .skip)) (Sq [a 40 10,m 41 40,d 42 1 41,qE 1 42] (Rq [a 43 0,a 44 1,a 45 2,a 46 3,⟨some 47,none,.p (.build [.nilp,iz,iz,iz,iz] [(0,1,.t 43),(1,1,.t 44),(2,1,.t 45),(3,1,.t 46)])⟩,w 48 595 47,a 8 48,b 9 0]))))))),[.tmp 8,.tmp 9]⟩
@[go_sem]def c561:CF:=⟨1,(Sq [v 2 0] (Qq (.drw ⟨[([g 0 0,n 1 3 0,j 2 4 1 0,k 3 5 2,n 4 6 3,j 5 7 4 0,k 6 8 5,g 7 0,n 8 10 7,j 9 11 8 1,k 10 12 9,g 11 0,n 12 14 11,j 13 15 12 0,k 14 16 13,n 15 17 14,j 16 18 15 2,k 17 19 16,g 18 0,n 19 21 18,j 20 22 19 2,k 21 23 20,g 24 0,n 25 27 24,j 26 28 25 3,k 27 29 26,zc 28 30 27],some (jn 22 20 17 24 21)),([qY 23 25 22 3 1],some (qp 29 9 6 13 10 26 23 31 28 25)),([],none)],[(0,3),(1,4),(2,5),(3,6),(4,7),(5,8),(6,9),(7,10),(8,11),(9,12),(10,13),(11,14),(12,15),(13,16),(14,17),(15,18),(16,19),(17,20),(18,21),(19,22),(20,23),(21,24),(22,25),(23,26),(24,27),(25,28),(26,29),(27,30),(28,31),(29,32)],[(⟨3,[(5,(some 2))],none,.r (.ld none (.t 5))⟩,[1]),(⟨6,[(8,(some 5))],none,.r (.ld none (.t 8))⟩,[1]),(⟨10,[(12,(some 9))],none,.r (.ld none (.t 12))⟩,[1]),(⟨27,[(29,(some 26))],none,.r (.ld none (.t 29))⟩,[1])]⟩) (Rq [v 2 14]))),[.tmp 2]⟩
@[go_sem]def c562:CF:=⟨1,(Sq [v 2 0] (Qq (.drw ⟨[([g 0 0,n 1 3 0,j 2 4 1 0,k 3 5 2,g 4 0,n 5 7 4,j 6 8 5 1,k 7 9 6,g 8 0,n 9 11 8,j 10 12 9 2,k 11 13 10],some (qL 12 6 3 10 7 14 11 444)),([],none)],[(0,3),(1,4),(2,5),(3,6),(4,7),(5,8),(6,9),(7,10),(8,11),(9,12),(10,13),(11,14),(12,15)],[]⟩) (Qq (.drw ⟨[([g 0 0,n 1 16 0,j 2 17 1 0,k 3 18 2,n 4 19 3,j 5 20 4 1,k 6 21 5,g 7 0,n 8 23 7,j 9 24 8 2,k 10 25 9,Q 11 22 6 26 10 2,j 12 27 11 1],some (jl 13 28 12 1)),([],none)],[(0,16),(1,17),(2,18),(3,19),(4,20),(5,21),(6,22),(7,23),(8,24),(9,25),(10,26),(11,27),(12,28)],[]⟩) (Rq [v 2 13])))),[.tmp 2]⟩
@[go_sem]def c560:CF:=⟨0,(Sq [⟨some 0,none,.n (.new 667 [.nilf,.nilf])⟩] (Rq [⟨some 1,none,.p (.build [.nilf,.nilf] [(0,1,.c (.fn (.func 561) [] [])),(1,1,.c (.fn (.func 562) [] []))])⟩,t 2 0 1])),[(.cell 0 (some 2))]⟩
@[go_sem]def c559:CF:=⟨1,(Sq [v 2 0,G 3] (Sq [⟨some 5,none,.cv (.c (.fn (.func 560) [] [])) []⟩,⟨some 4,none,.n (.new 667 [.nilf,.nilf])⟩,t 2 4 5] (Qq (Sq [a 6 0,u 7 588 6,a 8 7,s 9 8 0,qi 10 8 9,M 11 8 4 10,L 12 8 11,⟨some 13,some (8,false),.p (.bin .eql 3 false true (.t 12) (.c (.int .i64 2)))⟩,r 14 8 13] (Kq 14 [v 2 0,G 3] .skip)) (Sq [a 15 0,m 16 15,d 17 4 16,i 18 17,qs 19 2 1 4 18,i 20 19,a 21 0,⟨some 22,none,.cv (.t 20) [.t 21]⟩,a 2 22] (Sq [a 23 0,m 24 23,d 25 4 24,i 26 25,C 27 3 26 1,m 28 23,d 29 4 28,t 1 29 27] (Qq (.drw ⟨[([g 0 2,g 1 0,n 2 31 1,j 3 32 2 4,k 4 33 3,⟨5,[(34,some 4)],none,.p (.bin .eql 3 false true (.t 34) (.c (.int .i64 2)))⟩,y 6 30 0,y 7 35 5],none)],[(0,30),(1,31),(2,32),(3,33),(4,34),(5,35),(6,2),(7,3)],[]⟩) .ret)))))),[.tmp 2,.tmp 3]⟩
@[go_sem]def c558:CF:=⟨1,(Sq [v 2 0] (Sq [⟨some 4,none,.p (.build [.int .u8 0,.int .u8 0,.int .u8 0] [(0,1,.c (.int .u8 14)),(1,1,.c (.int .u8 13)),(2,1,.c (.int .u8 0))])⟩,⟨some 3,none,.n (.new 665 [.int .u8 0,.int .u8 0,.int .u8 0])⟩,t 3 3 4] (Qq (Sq [a 5 0,u 6 588 5] (Kq 6 [v 2 0] .skip)) (Rq [a 7 0,m 8 7,d 9 4 8,i 10 9,qs 11 3 1 3 10,i 12 11,a 2 12])))),[.tmp 2]⟩
def eachC(l:List (Int×Bool)):List AV:=l.flatMap fun p=>[.int .u64 p.1,.bool p.2]
theorem eachC_len:∀l,(eachC l).length=l.length*2
 | []=>rfl
 |p::l=>by
  have:=eachC_len l
  show(AV.int .u64 p.1::AV.bool p.2::eachC l).length=_
  rw[List.length_cons,List.length_cons,this,List.length_cons]
  omega
theorem eachC_get:∀(l:List (Int×Bool)) (s:Nat) (x:Int) (b:Bool),l[s]?=some (x,b)->(eachC l)[s*2]?=some (.int .u64 x)∧(eachC l)[s*2+1]?=some (.bool b)
 | [],s,x,b,h=>by simp at h
 |p::l,0,x,b,h=>by
  simp only[List.getElem?_cons_zero,Option.some.injEq]at h
  subst h
  exact⟨rfl,rfl⟩
 |p::l,s+1,x,b,h=>by
  have:=eachC_get l s x b (by simpa using h)
  rw[Nat.add_mul]
  exact this
theorem eachC_set:∀(l:List (Int×Bool)) (s:Nat) (x:Int) (b:Bool),l[s]?=some (x,b)->(∀z,(eachC l).set (s*2) (.int .u64 z)=eachC (l.set s (z,b)))∧∀c,(eachC l).set (s*2+1) (.bool c)=eachC (l.set s (x,c))
 | [],s,x,b,h=>by simp at h
 |p::l,0,x,b,h=>by
  simp only[List.getElem?_cons_zero,Option.some.injEq]at h
  subst h
  exact⟨fun z=>rfl,fun c=>rfl⟩
 |p::l,s+1,x,b,h=>by
  have:=eachC_set l s x b (by simpa using h)
  rw[Nat.add_mul]
  exact⟨fun z=>congrArg (fun q=>AV.int .u64 p.1::AV.bool p.2::q) (this.1 z),fun c=>congrArg (fun q=>AV.int .u64 p.1::AV.bool p.2::q) (this.2 c)⟩
structure EachE(h:H)(M n bs G N F:Nat)(sl:List (Int×Bool)):Prop where
 gG:h.t.get G=some (rowL [.ptr M 0,.sl N 0 n 2 (some n),.fn (.func 237) [] [.ptr F 0]] 430)
 gN:h.t.get N=some (.row (putList 0 (eachC sl) T.e) (n*2) 593)
 gF:h.t.get F=some (rowL [.int .i64 (bs:Int)] 3)
 ln:sl.length=n
 lG:G<h.next
 lN:N<h.next
 lF:F<h.next
theorem EachE.keep{h h':H}{M n bs G N F:Nat}{sl:List (Int×Bool)}(m:EachE h M n bs G N F sl)(hn:h.next<=h'.next)(k:∀b,b=G∨b=N∨b=F->h'.t.get b=h.t.get b):EachE h' M n bs G N F sl:=
 ⟨(k G (.inl rfl)).trans m.gG,(k N (.inr (.inl rfl))).trans m.gN,(k F (.inr (.inr rfl))).trans m.gF,m.ln,Nat.lt_of_lt_of_le m.lG hn,Nat.lt_of_lt_of_le m.lN hn,Nat.lt_of_lt_of_le m.lF hn⟩
theorem w446{h:H}{G:Nat}{t:Int}(t0:0<=t)(t1:t<64):WF P call c446 [.ptr G 0,.int .i64 t] h fun v h'=>v=.int .i64 0∧h'=h:=by
 have e1:¬t<0:=by omega
 have e2:¬(64:Int)<=t:=by omega
 simp only[go_sem,seval,e1,e2,t1]
theorem w445(h446:FThr call 446){h:H}{M n bs G N F:Nat}{sl:List (Int×Bool)}(m:EachE h M n bs G N F sl){t:Int}(t0:0<=t)(t1:t<64){s:Nat}(hs:s<n):WF P call c445 [.ptr G 0,.int .i64 t,.int .i64 (s:Int)] h fun v h'=>v=.tup [.ptr N (s*2),.int .i64 0]∧h'=h:=by
 have k:=h446 h G t t0 t1
 have gG:=m.gG
 have e1:¬(s:Int)<0:=by omega
 have e2:¬(n:Int)<=(s:Int):=by omega
 have e3:(s:Int)<(n:Int):=by omega
 simp only[go_sem,seval,k,gG,e1,e2,e3]
def F445(call:CallE):Prop:=∀h M n bs G N F sl (t:Int) (s:Nat),EachE h M n bs G N F sl->0<=t->t<64->s<n->call 445 [.ptr G 0,.int .i64 t,.int .i64 (s:Int)] h=some (.tup [.ptr N (s*2),.int .i64 0],h)
theorem w237(P:Program){call:CallE}{h:H}{F bs s:Nat}(gF:h.t.get F=some (rowL [.int .i64 (bs:Int)] 3))(hb:bs<=60000)(hs:s<=64):WF P call c237 [.int .i64 (s:Int),.ptr F 0] h fun v h'=>v=.int .i64 ((bs+2*s:Nat):Int)∧h'=h:=by
 have f1:fw .i64 (2*(s:Int))=2*(s:Int):=fwI (by omega) (by omega)
 have f2:fw .i64 ((bs:Int)+2*(s:Int))=((bs+2*s:Nat):Int):=by rw[fwI (by omega) (by omega)];omega
 simp only[go_sem,seval,gF,f1,f2]
def F237(call:CallE):Prop:=∀h (F bs s:Nat),h.t.get F=some (rowL [.int .i64 (bs:Int)] 3)->bs<=60000->s<=64->call 237 [.int .i64 (s:Int),.ptr F 0] h=some (.int .i64 ((bs+2*s:Nat):Int),h)
def eachS(G N F:Nat)(b:Nat):Prop:=b=G∨b=N∨b=F
theorem w444(h25:F25 call)(h237:F237 call){h:H}{M W n bs G N F:Nat}{sl:List (Int×Bool)}{lv:AV}{ws:List Int}{l:List AccT}(m:EachE h M n bs G N F sl)(mm:MemL h M W lv ws l)(hl:l.length<=1000000)(hd:∀b,eachS G N F b->¬memS M W lv b)(hb:bs+n*2<=5000)(hn64:n<=64)
 {t:Int} (t0:0<=t) (t1:t<64) {s:Nat} {y:Int} {c:Bool} (hx:sl[s]?=some (0,c)) (hy:ws[bs+2*s]?=some y):
 WF P call c444 [.ptr G 0,.int .i64 t,.int .i64 (s:Int)] h fun v h'=>v=.tup []∧∃lv',MemL h' M W lv' (ws.set (bs+2*s) 1) (l++[⟨t,((bs+2*s:Nat):Int),2,y,1,false⟩])∧EachE h' M n bs G N F (sl.set s (1,c))∧(∀b,own lv'=some b->h.next<=b)∧Tch (fun b=>memS M W lv b∨b=N) h h':=by
 have gG:=m.gG
 have gN:=m.gN
 have gF:=m.gF
 have hs:s<n:=by rw[←m.ln];exact(List.getElem?_eq_some_iff.1 hx).1
 have hcl:(eachC sl).length=n*2:=by rw[eachC_len,m.ln]
 have hs1:s*2<(eachC sl).length:=by omega
 have e2:(s:Int)<(n:Int):=by omega
 obtain⟨hx1,-⟩:=eachC_get sl s 0 c hx
 obtain⟨hs2',-⟩:=eachC_set sl s 0 c hx
 have GN:¬G=N:=rowL_ne gG gN (by decide)
 have FN:¬F=N:=rowL_ne gF gN (by decide)
 have f1:fw .u64 1=1:=rfl
 have hs2:s*2+1<=n*2:=by omega
 have hs3:s*2<n*2:=by omega
 have st0:Tch (fun b=>memS M W lv b∨b=N) h ⟨h.next,h.t.set N (.row (putList 0 (eachC (sl.set s (1,c))) T.e) (n*2) 593)⟩:=⟨Nat.le_refl _,fun b hb hn=>by
  have e0:¬b=N:=fun e=>hn (.inr e)
  simp only[go_sem,seval,e0]⟩
 have mm1:MemL ⟨h.next,h.t.set N (.row (putList 0 (eachC (sl.set s (1,c))) T.e) (n*2) 593)⟩ M W lv ws l:=mm.keep (Nat.le_refl _) fun b hb hS=>by
  have e0:¬b=N:=fun e=>hd N (.inr (.inl rfl)) (e▸hS)
  simp only[go_sem,seval,e0]
 have g1:=(eachC_get (sl.set s (1,c)) s 1 c (by rw[List.getElem?_set_self (by rw[m.ln];exact hs)])).1
 have kF:=h237 ⟨h.next,h.t.set N (.row (putList 0 (eachC (sl.set s (1,c))) T.e) (n*2) 593)⟩ F bs s (by simp only[go_sem,seval,FN];exact gF) (by omega) (by omega)
 simp only[go_sem,seval,gG,e2,gN,hx1,hcl,hs1,hs2,hs3,f1,GN,hs2',g1,kF]
 refine opt_by (h25 _ M W lv ws l t (bs+2*s) y 1 mm1 hl t0 t1 hy) fun v1 h1 p1=>?_
 obtain⟨rfl,lv',m1,lo1,st1⟩:=p1
 have nx:h.next<=h1.next:=st1.next
 simp only[go_sem,seval,nx,GN,gG,g1]
 have kp:∀b,eachS G N F b->b<h.next->h1.t.get b=(h.t.set N (.row (putList 0 (eachC (sl.set s (1,c))) T.e) (n*2) 593)).get b:=fun b hb lb=>st1.old b lb (hd b hb)
 have k1:=kp G (.inl rfl) m.lG
 have k2:=kp N (.inr (.inl rfl)) m.lN
 have k3:=kp F (.inr (.inr rfl)) m.lF
 simp only[go_sem,seval,GN]at k1
 simp only[go_sem,seval]at k2
 simp only[go_sem,seval,FN]at k3
 refine⟨lv',m1,⟨k1.trans gG,k2,k3.trans gF,by rw[List.length_set];exact m.ln,Nat.lt_of_lt_of_le m.lG nx,Nat.lt_of_lt_of_le m.lN nx,Nat.lt_of_lt_of_le m.lF nx⟩,lo1,nx,fun b hb hn=>?_⟩
 exact(st1.old b hb fun e=>hn (.inl e)).trans (st0.old b hb hn)
def F444(call:CallE):Prop:=∀h M W n bs G N F sl lv ws l (t:Int) (s:Nat) (y:Int) c,EachE h M n bs G N F sl->MemL h M W lv ws l->l.length<=1000000->(∀b,eachS G N F b->¬memS M W lv b)->bs+n*2<=5000->n<=64->0<=t->t<64->sl[s]?=some (0,c)->ws[bs+2*s]?=some y->
    ∃v h',call 444 [.ptr G 0,.int .i64 t,.int .i64 (s:Int)] h=some (v,h')∧(v=.tup []∧∃lv',MemL h' M W lv' (ws.set (bs+2*s) 1) (l++[⟨t,((bs+2*s:Nat):Int),2,y,1,false⟩])∧EachE h' M n bs G N F (sl.set s (1,c))∧(∀b,own lv'=some b->h.next<=b)∧Tch (fun b=>memS M W lv b∨b=N) h h')
def eZ(nu:List Int):List (Int×Bool):=nu.map fun x=>(x,false)
theorem eZ_get{nu:List Int}{s:Nat}{x:Int}(h:nu[s]?=some x):(eZ nu)[s]?=some (x,false):=by unfold eZ;rw[List.getElem?_map,h];rfl
theorem eZ_set(nu:List Int)(s:Nat)(x:Int):(eZ nu).set s (x,false)=eZ (nu.set s x):=by unfold eZ;rw[List.map_set]
def PostEB(M n bs G N F:Nat)(nu:List Int)(s:Nat)(x t:Int)(h:H)(v:AV)(h':H):Prop:=
 (x=1∧v=.tup [.nilp,.int .i64 8]∧h'=h)∨(x=0∧∃X,v=.tup [.ptr X 0,.int .i64 0]∧h.next<=X∧X<h'.next∧h'.t.get X=some (rowL [.ptr G 0,.int .i64 t,.int .i64 (s:Int),.int .i64 0,.int .i64 0] 595)∧EachE h' M n bs G N F ((eZ nu).set s (0,true))∧Tch (fun b=>b=N) h h')
theorem w440(h445:F445 call){h:H}{M n bs G N F:Nat}{nu:List Int}(m:EachE h M n bs G N F (eZ nu)){t:Int}(t0:0<=t)(t1:t<64){s:Nat}{x:Int}(hx:nu[s]?=some x)(x1:x=0∨x=1):
 WF P call c440 [.ptr G 0,.int .i64 t,.int .i64 (s:Int),.int .i64 0] h (PostEB M n bs G N F nu s x t h):=by
 have gG:=m.gG
 have gN:=m.gN
 have gF:=m.gF
 have hx0:=eZ_get hx
 have hs:s<n:=by rw[←m.ln];exact(List.getElem?_eq_some_iff.1 hx0).1
 have k1:=h445 h M n bs G N F _ t s m t0 t1 hs
 have hcl:(eachC (eZ nu)).length=n*2:=by rw[eachC_len,m.ln]
 have hs1:s*2+1<(eachC (eZ nu)).length:=by omega
 have hs2:s*2+1+1<=n*2:=by omega
 have hs3:s*2+1<n*2:=by omega
 obtain⟨g0,g1⟩:=eachC_get _ s x false hx0
 have hst:=(eachC_set _ s x false hx0).2
 have GN:¬G=N:=rowL_ne gG gN (by decide)
 have FN:¬F=N:=rowL_ne gF gN (by decide)
 have lG:=m.lG
 have lN:=m.lN
 have lF:=m.lF
 have m0:Int.tmod 0 2=0:=rfl
 have m1:Int.tmod 1 2=1:=rfl
 rcases x1 with rfl|rfl
 ·simp only[go_sem,seval,k1,gN,g0,g1,hcl,hs1,hs2,hs3,hst,m0,m1]
  have n1:¬G=h.next:=by omega
  have n2:¬N=h.next:=by omega
  have n3:¬F=h.next:=by omega
  refine .inr ⟨rfl,h.next,rfl,Nat.le_refl _,Nat.lt_succ_self _,by simp only[go_sem,seval];rfl,⟨by simp only[go_sem,seval,n1,GN];exact gG,by simp[go_sem,n2],by simp only[go_sem,seval,n3,FN];exact gF,by rw[List.length_set];exact m.ln,Nat.lt_succ_of_lt lG,Nat.lt_succ_of_lt lN,Nat.lt_succ_of_lt lF⟩,⟨Nat.le_succ _,fun b hb hn=>?_⟩⟩
  have n4:¬b=h.next:=by omega
  simp only[go_sem,seval,n4,hn]
 ·simp only[go_sem,seval,k1,gN,g0,g1,m0,m1]
  exact .inl ⟨rfl,rfl,rfl⟩
theorem w561(h25:F25 call)(h237:F237 call){h:H}{M W n bs G N F X:Nat}{sl:List (Int×Bool)}{lv:AV}{ws:List Int}{l:List AccT}{t d:Int}{s:Nat}(m:EachE h M n bs G N F sl)(mm:MemL h M W lv ws l)(hl:l.length<=1000000)(hb:bs+n*2<=5000)(hn64:n<=64)(hs:s<n)
 (gX:h.t.get X=some (rowL [.ptr G 0,.int .i64 t,.int .i64 (s:Int),.int .i64 0,.int .i64 d] 595)) (t0:0<=t) (t1:t<64) {y:Int} (hy:ws[bs+(2*s+1)]?=some y):
 WF P call c561 [.ptr X 0] h fun v h'=>v=.int .u8 14∧PostN M W lv (ws.set (bs+(2*s+1)) 0) (l++[⟨t,((bs+(2*s+1):Nat):Int),2,y,0,false⟩]) h h':=by
 have gG:=m.gG
 have kF:=h237 h F bs s m.gF (by omega) (by omega)
 have f1:fw .i64 (((bs+2*s:Nat):Int)+1)=((bs+(2*s+1):Nat):Int):=by rw[fwI (by omega) (by omega)];omega
 have f2:fw .u64 0=0:=rfl
 simp only[go_sem,seval,gX,gG,kF,f1,f2]
 refine opt_by (h25 _ M W lv ws l t (bs+(2*s+1)) y 0 mm hl t0 t1 hy) fun v1 h1 p1=>?_
 obtain⟨rfl,p1⟩:=p1
 have nx:h.next<=h1.next:=by obtain⟨_,_,_,st⟩:=p1;exact st.next
 simp only[go_sem,seval,nx,gX,gG]
 exact p1
def F561(call:CallE):Prop:=∀h M W n bs G N F X sl lv ws l (t d:Int) (s:Nat) (y:Int),EachE h M n bs G N F sl->MemL h M W lv ws l->l.length<=1000000->bs+n*2<=5000->n<=64->s<n->h.t.get X=some (rowL [.ptr G 0,.int .i64 t,.int .i64 (s:Int),.int .i64 0,.int .i64 d] 595)->0<=t->t<64->ws[bs+(2*s+1)]?=some y->
    ∃v h',call 561 [.ptr X 0] h=some (v,h')∧(v=.int .u8 14∧PostN M W lv (ws.set (bs+(2*s+1)) 0) (l++[⟨t,((bs+(2*s+1):Nat):Int),2,y,0,false⟩]) h h')
def PostSB(M W n bs G N F:Nat)(nu:List Int)(lv:AV)(ws:List Int)(l:List AccT)(t:Int)(s:Nat)(y:Int)(h h':H):Prop:=
 ∃lv',MemL h' M W lv' (ws.set (bs+2*s) 1) (l++[⟨t,((bs+2*s:Nat):Int),2,y,1,false⟩])∧EachE h' M n bs G N F (eZ (nu.set s 1))∧(∀b,own lv'=some b->h.next<=b)∧Tch (fun b=>memS M W lv b∨b=N) h h'
theorem w562(h444:F444 call){h:H}{M W n bs G N F X:Nat}{nu:List Int}{lv:AV}{ws:List Int}{l:List AccT}{t d:Int}{s:Nat}(m:EachE h M n bs G N F ((eZ nu).set s (0,true)))(mm:MemL h M W lv ws l)(hl:l.length<=1000000)(hd:∀b,eachS G N F b∨b=X->¬memS M W lv b)(hb:bs+n*2<=5000)(hn64:n<=64)(hs:s<n)
 (gX:h.t.get X=some (rowL [.ptr G 0,.int .i64 t,.int .i64 (s:Int),.int .i64 0,.int .i64 d] 595)) (lX:X<h.next) (t0:0<=t) (t1:t<64) {y:Int} (hy:ws[bs+2*s]?=some y):
 WF P call c562 [.ptr X 0] h fun v h'=>v=.int .u8 13∧PostSB M W n bs G N F nu lv ws l t s y h h':=by
 have gG:=m.gG
 have gN:=m.gN
 have ln:=m.ln
 rw[List.length_set]at ln
 have hx:((eZ nu).set s (0,true))[s]?=some (0,true):=by rw[List.getElem?_set_self (by omega)]
 have e2:(s:Int)<(n:Int):=by omega
 have XN:¬X=N:=rowL_ne gX gN (by decide)
 have GN:¬G=N:=rowL_ne gG gN (by decide)
 simp only[go_sem,seval,gX]
 refine opt_by (h444 h M W n bs G N F _ lv ws l t s y true m mm hl (fun b hb=>hd b (.inl hb)) hb hn64 t0 t1 hx hy) fun v1 h1 p1=>?_
 obtain⟨rfl,lv',m1,f1,lo1,st1⟩:=p1
 rw[List.set_set]at f1
 have gX1:=(st1.old X lX fun e=>e.elim (hd X (.inr rfl)) XN).trans gX
 have gG1:=f1.gG
 have gN1:=f1.gN
 have hx1:((eZ nu).set s (1,true))[s]?=some (1,true):=by rw[List.getElem?_set_self (by omega)]
 have hcl:(eachC ((eZ nu).set s (1,true))).length=n*2:=by rw[eachC_len,List.length_set,ln]
 have hs1:s*2+1<(eachC ((eZ nu).set s (1,true))).length:=by omega
 have hs2:s*2+1+1<=n*2:=by omega
 have hs3:s*2+1<n*2:=by omega
 have hst:=(eachC_set _ s 1 true hx1).2 false
 rw[List.set_set,eZ_set]at hst
 have nx1:=st1.next
 have dlv:¬memS M W lv' N:=fun hS=>by
  rcases hS with e|e|e
  ·exact hd N (.inl (.inr (.inl rfl))) (.inl e)
  ·exact hd N (.inl (.inr (.inl rfl))) (.inr (.inl e))
  ·have:=lo1 N e
   have:=m.lN
   omega
 have FN:¬F=N:=rowL_ne m.gF gN (by decide)
 simp only[go_sem,seval,gX1,gG1,e2,gN1,hcl,hs1,hs2,hs3,hst,nx1]
 refine⟨lv',m1.keep (Nat.le_refl _) fun b hb hS=>?_,⟨by simp only[go_sem,seval,GN];exact gG1,by simp[go_sem],by simp only[go_sem,seval,FN];exact f1.gF,by unfold eZ at ln⊢;rw[List.length_map,List.length_set,←ln,List.length_map],f1.lG,f1.lN,f1.lF⟩,lo1,nx1,fun b hb hn=>?_⟩
 ·have q2:¬b=N:=fun e=>dlv (e▸hS)
  simp only[go_sem,seval,q2]
 ·have q2:¬b=N:=fun e=>hn (.inr e)
  simp only[go_sem,seval,q2]
  exact st1.old b hb hn
def F562(call:CallE):Prop:=∀h M W n bs G N F X nu lv ws l (t d:Int) (s:Nat) (y:Int),EachE h M n bs G N F ((eZ nu).set s (0,true))->MemL h M W lv ws l->l.length<=1000000->(∀b,eachS G N F b∨b=X->¬memS M W lv b)->bs+n*2<=5000->n<=64->s<n->h.t.get X=some (rowL [.ptr G 0,.int .i64 t,.int .i64 (s:Int),.int .i64 0,.int .i64 d] 595)->X<h.next->0<=t->t<64->ws[bs+2*s]?=some y->
    ∃v h',call 562 [.ptr X 0] h=some (v,h')∧(v=.int .u8 13∧PostSB M W n bs G N F nu lv ws l t s y h h')
theorem w560(P:Program){call:CallE}{h:H}:WF P call c560 [] h fun v h'=>v=.agg [.fn (.func 561) [] [],.fn (.func 562) [] []]∧StepN h h':=by
 simp only[go_sem,seval]
 exact⟨by show h.next<=h.next+1;omega,fun b hb=>by
  have e1:¬b=h.next:=by omega
  simp only[go_sem,seval,e1]⟩
def F560(call:CallE):Prop:=∀h,∃v h',call 560 [] h=some (v,h')∧(v=.agg [.fn (.func 561) [] [],.fn (.func 562) [] []]∧StepN h h')
def xB(G:Nat)(t:Int)(s:Nat)(d:Int):AO:=rowL [.ptr G 0,.int .i64 t,.int .i64 (s:Int),.int .i64 0,.int .i64 d] 595
theorem w559z(h560:F560 call){h:H}{X G:Nat}{t:Int}{s:Nat}(gX:h.t.get X=some (xB G t s 2))(lX:X<h.next):WF P call c559 [.ptr X 0] h fun v h'=>v=.tup [.int .u8 0,.bool false]∧StepN h h':=by
 simp only[go_sem,seval]
 refine opt_by (h560 h) fun v1 h1 p1=>?_
 obtain⟨rfl,st1⟩:=p1
 have nx:=st1.next
 have gX1:=(st1.old X lX).trans gX
 have n1:¬X=h1.next:=by omega
 unfold xB at gX1
 simp only[go_sem,seval,gX1,n1]
 exact⟨by show h.next<=h1.next+1;omega,fun b hb=>by
  have e1:¬b=h1.next:=by omega
  simp only[go_sem,seval,e1]
  exact st1.old b hb⟩
theorem w559a(h560:F560 call)(h561:F561 call){h:H}{M W n bs G N F X:Nat}{sl:List (Int×Bool)}{lv:AV}{ws:List Int}{l:List AccT}{t:Int}{s:Nat}(m:EachE h M n bs G N F sl)(mm:MemL h M W lv ws l)(hl:l.length<=1000000)(hd:∀b,eachS G N F b∨b=X->¬memS M W lv b)(hb:bs+n*2<=5000)(hn64:n<=64)(hs:s<n)
 (gX:h.t.get X=some (xB G t s 0)) (lX:X<h.next) (t0:0<=t) (t1:t<64) {y:Int} (hy:ws[bs+(2*s+1)]?=some y):
 WF P call c559 [.ptr X 0] h fun v h'=>v=.tup [.int .u8 14,.bool false]∧∃lv',MemL h' M W lv' (ws.set (bs+(2*s+1)) 0) (l++[⟨t,((bs+(2*s+1):Nat):Int),2,y,0,false⟩])∧EachE h' M n bs G N F sl∧h'.t.get X=some (xB G t s 1)∧(∀b,own lv'=some b->h.next<=b)∧Tch (fun b=>memS M W lv b∨b=X) h h':=by
 simp only[go_sem,seval]
 refine opt_by (h560 h) fun v1 h1 p1=>?_
 obtain⟨rfl,st1⟩:=p1
 have nx:=st1.next
 have n1:¬X=h1.next:=by omega
 have XG:¬X=G:=fun e=>by
  rw[e,m.gG]at gX
  simp[xB,rowL]at gX
 have XN:¬X=N:=fun e=>by
  rw[e,m.gN]at gX
  simp[xB,rowL]at gX
 have XF:¬X=F:=fun e=>by
  rw[e,m.gF]at gX
  simp[xB,rowL]at gX
 have gX1:=(st1.old X lX).trans gX
 have st2:StepN h1 ⟨h1.next+1,(h1.t.set h1.next (.row (putList 0 [.fn (.func 561) [] [],.fn (.func 562) [] []] T.e) 2 667))⟩:=StepN.new h1 _
 have st02:=st1.trans st2
 have gX2:=(st02.old X lX).trans gX
 have em:∀b,b=G∨b=N∨b=F->b<h.next:=fun b hb=>by
  rcases hb with rfl|rfl|rfl
  ·exact m.lG
  ·exact m.lN
  ·exact m.lF
 have m2:=m.keep st02.next fun b hb=>st02.old b (em b hb)
 have mm2:=mm.step st02
 have k3:=h561 _ M W n bs G N F X sl lv ws l t 0 s y m2 mm2 hl hb hn64 hs (by rw[gX2];rfl) t0 t1 hy
 unfold xB at gX gX1
 simp only[go_sem,seval,gX1,n1]
 refine opt_by k3 fun v3 h3 p3=>?_
 obtain⟨rfl,lv',m3,lo3,st3⟩:=p3
 have nx3:h1.next+1<=h3.next:=st3.next
 have gX3:=(st3.old X (by show X<h1.next+1;omega) (hd X (.inr rfl)))
 simp only[go_sem,seval,n1,gX1]at gX3
 have f1:fw .i64 1=1:=rfl
 simp only[go_sem,seval,gX3,f1,nx3,n1]
 have dlv:¬memS M W lv' X:=fun hS=>by
  rcases hS with e|e|e
  ·exact hd X (.inr rfl) (.inl e)
  ·exact hd X (.inr rfl) (.inr (.inl e))
  ·have q:h1.next+1<=X:=lo3 X e
   omega
 refine⟨lv',m3.keep (Nat.le_refl _) fun b hb hS=>?_,m2.keep (by show h1.next+1<=h3.next;omega) fun b hb=>?_,?_,fun b hb=>?_,by show h.next<=h3.next;omega,fun b hb hn=>?_⟩
 ·have q:¬b=X:=fun e=>dlv (e▸hS)
  simp only[go_sem,seval,q]
 ·have q:¬b=X:=fun e=>hb.elim (fun q=>XG (e.symm.trans q)) fun hb=>hb.elim (fun q=>XN (e.symm.trans q)) fun q=>XF (e.symm.trans q)
  have q2:=st3.old b (by have:=em b hb;show b<h1.next+1;omega) (hd b (.inl hb))
  simp only[go_sem,seval,q,q2]
 ·rfl
 ·have q:h1.next+1<=b:=lo3 b hb
  omega
 ·have q:¬b=X:=fun e=>hn (.inr e)
  have q2:=st3.old b (by show b<h1.next+1;omega) fun e=>hn (.inl e)
  simp only[go_sem,seval,q]
  exact q2.trans (st02.old b hb)
theorem w559b(h560:F560 call)(h562:F562 call){h:H}{M W n bs G N F X:Nat}{nu:List Int}{lv:AV}{ws:List Int}{l:List AccT}{t:Int}{s:Nat}(m:EachE h M n bs G N F ((eZ nu).set s (0,true)))(mm:MemL h M W lv ws l)(hl:l.length<=1000000)(hd:∀b,eachS G N F b∨b=X->¬memS M W lv b)(hb:bs+n*2<=5000)(hn64:n<=64)(hs:s<n)
 (gX:h.t.get X=some (xB G t s 1)) (lX:X<h.next) (t0:0<=t) (t1:t<64) {y:Int} (hy:ws[bs+2*s]?=some y):
 WF P call c559 [.ptr X 0] h fun v h'=>v=.tup [.int .u8 13,.bool true]∧∃lv',MemL h' M W lv' (ws.set (bs+2*s) 1) (l++[⟨t,((bs+2*s:Nat):Int),2,y,1,false⟩])∧EachE h' M n bs G N F (eZ (nu.set s 1))∧h'.t.get X=some (xB G t s 2)∧(∀b,own lv'=some b->h.next<=b)∧Tch (fun b=>memS M W lv b∨b=N∨b=X) h h':=by
 simp only[go_sem,seval]
 refine opt_by (h560 h) fun v1 h1 p1=>?_
 obtain⟨rfl,st1⟩:=p1
 have nx:=st1.next
 have n1:¬X=h1.next:=by omega
 have XG:¬X=G:=fun e=>by
  rw[e,m.gG]at gX
  simp[xB,rowL]at gX
 have XN:¬X=N:=fun e=>by
  rw[e,m.gN]at gX
  simp[xB,rowL]at gX
 have XF:¬X=F:=fun e=>by
  rw[e,m.gF]at gX
  simp[xB,rowL]at gX
 have gX1:=(st1.old X lX).trans gX
 have st2:StepN h1 ⟨h1.next+1,(h1.t.set h1.next (.row (putList 0 [.fn (.func 561) [] [],.fn (.func 562) [] []] T.e) 2 667))⟩:=StepN.new h1 _
 have st02:=st1.trans st2
 have gX2:=(st02.old X lX).trans gX
 have em:∀b,b=G∨b=N∨b=F->b<h.next:=fun b hb=>by
  rcases hb with rfl|rfl|rfl
  ·exact m.lG
  ·exact m.lN
  ·exact m.lF
 have m2:=m.keep st02.next fun b hb=>st02.old b (em b hb)
 have mm2:=mm.step st02
 have k3:=h562 _ M W n bs G N F X nu lv ws l t 1 s y m2 mm2 hl hd hb hn64 hs (by rw[gX2];rfl) (by show X<h1.next+1;omega) t0 t1 hy
 unfold xB at gX gX1
 simp only[go_sem,seval,gX1,n1]
 refine opt_by k3 fun v3 h3 p3=>?_
 obtain⟨rfl,lv',m3,e3,lo3,st3⟩:=p3
 have nx3:h1.next+1<=h3.next:=st3.next
 have gX3:=(st3.old X (by show X<h1.next+1;omega) fun e=>e.elim (hd X (.inr rfl)) XN)
 simp only[go_sem,seval,n1,gX1]at gX3
 have f1:fw .i64 2=2:=rfl
 simp only[go_sem,seval,gX3,f1,nx3,n1]
 have dlv:¬memS M W lv' X:=fun hS=>by
  rcases hS with e|e|e
  ·exact hd X (.inr rfl) (.inl e)
  ·exact hd X (.inr rfl) (.inr (.inl e))
  ·have q:h1.next+1<=X:=lo3 X e
   omega
 refine⟨lv',m3.keep (Nat.le_refl _) fun b hb hS=>?_,e3.keep (Nat.le_refl _) fun b hb=>?_,?_,fun b hb=>?_,by show h.next<=h3.next;omega,fun b hb hn=>?_⟩
 ·have q:¬b=X:=fun e=>dlv (e▸hS)
  simp only[go_sem,seval,q]
 ·have q:¬b=X:=fun e=>hb.elim (fun q=>XG (e.symm.trans q)) fun hb=>hb.elim (fun q=>XN (e.symm.trans q)) fun q=>XF (e.symm.trans q)
  simp only[go_sem,seval,q]
 ·rfl
 ·have q:h1.next+1<=b:=lo3 b hb
  omega
 ·have q:¬b=X:=fun e=>hn (.inr (.inr e))
  have q2:=st3.old b (by show b<h1.next+1;omega) fun e=>hn (e.elim .inl fun e=>.inr (.inl e))
  simp only[go_sem,seval,q]
  exact q2.trans (st02.old b hb)
@[go_sem]def c243:CF:=⟨3,(Sq [qk 6 0,b 7 0] (Qq (Sq [a 10 0,a 11 1,a 12 2,qa 13 91 10 11 12,a 8 13] (Sq [a 14 8,z 15 54 14 0] (Kq 15 [a 16 8,qk 6 0,a 7 16] .skip))) (Sq [a 17 0,m 18 17,d 19 0 18,i 20 19,a 21 2,E 22 1 20 21,q 23 143 22,a 9 23] (Sq [a 24 0,a 25 1,a 26 2,a 27 9,a 28 9,zM 29 93 24 25 26 1 27 28] (Rq [a 30 9,a 6 30,b 7 0]))))),[.tmp 6,.tmp 7]⟩
@[go_sem]def c463:CF:=⟨2,(Sq [qk 4 0] (Rq [a 5 0,m 6 5,d 7 0 6,a 8 1,Z 9 468 7 8,a 4 9])),[.tmp 4]⟩
@[go_sem]def c458:CF:=⟨4,(Sq [qk 8 0,b 9 0] (Qq (Sq [a 12 0,a 13 1,a 14 2,qa 15 91 12 13 14,a 10 15] (Sq [a 16 10,z 17 54 16 0] (Kq 17 [a 18 10,qk 8 0,a 9 18] .skip))) (Sq [a 19 0,m 20 19,d 21 0 20,i 22 21,a 23 2,E 24 1 22 23,a 25 3,Z 26 463 24 25,a 11 26] (Sq [a 27 0,a 28 1,a 29 2,a 30 11,a 31 3,qH 32 51 30 31,a 33 11,zM 34 93 27 28 29 3 32 33] (Rq [a 35 11,a 8 35,b 9 0]))))),[.tmp 8,.tmp 9]⟩
@[go_sem]def c459:CF:=⟨2,(Sq [b 4 0] (Qq (Sq [a 5 0,u 6 341 5] (Kq 6 [b 4 1] .skip)) (Qq (Sq [a 7 1,K 8 3 7 0,a 9 8,s 10 9 1,qn 11 9 3 10 64,r 12 9 11] (Kq 12 [b 4 2] .skip)) (Rq [b 4 0])))),[.tmp 4]⟩
@[go_sem]def c455:CF:=⟨3,(Sq [b 6 0] (Qq (Sq [a 8 0,a 9 1,Z 10 459 8 9,a 7 10] (Sq [a 11 7,z 12 54 11 0] (Kq 12 [a 13 7,a 6 13] .skip))) (Qq (Sq [a 14 2,K 15 3 14 0,a 16 15,s 17 16 2,qn 18 16 3 17 64,r 19 16 18] (Kq 19 [b 6 3] .skip)) (Rq [b 6 0])))),[.tmp 6]⟩
@[go_sem]def c462:CF:=⟨1,(Sq [b 2 0] (Qq (Sq [a 3 0,K 4 3 3 1,a 5 4,s 6 5 0,qc 7 5 3 6 16,r 8 5 7] (Kq 8 [b 2 2] .skip)) (Rq [b 2 0]))),[.tmp 2]⟩
@[go_sem]def c456:CF:=⟨2,(Sq [b 4 0,b 5 0] (Qq (Sq [a 7 1,q 8 462 7,a 6 8] (Sq [a 9 6,z 10 54 9 0] (Kq 10 [a 11 6,b 4 0,a 5 11] .skip))) (Qq (Sq [a 12 0,K 13 3 12 0,a 14 13,s 15 14 0,qn 16 14 3 15 64,r 17 14 16] (Kq 17 [b 4 0,b 5 3] .skip)) (Rq [a 18 0,a 19 1,zb 20 3 18 19,a 4 20,b 5 0])))),[.tmp 4,.tmp 5]⟩
def c457_l7:CC:=(Sq [K 8 3 7 4] (Qq (Cq 8 .skip (.exit 0)) (Qq (.block 1 (Sq [a 9 7,a 6 9] (Oq [a 10 6,a 11 0,m 12 11,d 13 1 12,i 14 13,a 15 1,qq 16 3 4 15,qf 17 3 14 16,a 18 6,qf 19 3 17 18,qs 20 4 1 5 10,t 1 20 19]))) (Oq [C 21 3 7 1,a 7 21]))))
@[go_sem]def c457:CF:=⟨2,(Sq [zD 4 424 0 0 0 0] (Sq [zD 5 424 0 0 0 0] (Qq (Sq [b 7 0] (.block 0 (.loop c457_l7))) (Rq [V 22 4 5,t 4 4 22])))),[(.cell 4 (some 4))]⟩
@[go_sem]def c451:CF:=⟨4,(Sq [p 8,b 9 0] (Qq (Sq [a 16 0,a 17 1,a 18 2,qa 19 455 16 17 18,a 10 19] (Sq [a 20 10,z 21 54 20 0] (Kq 21 [a 22 10,p 8,a 9 22] .skip))) (Qq (Sq [a 23 3,K 24 3 23 0,a 25 24,s 26 25 3,qn 27 25 3 26 64,r 28 25 27] (Kq 28 [p 8,b 9 2] .skip)) (Qq (Sq [a 30 0,m 31 30,d 32 3 31,i 33 32,a 34 2,jo 35 0 33 34,a 29 35,o 36 29 0,o 37 29 1,a 11 36,a 12 37] (Sq [a 38 12] (Kq 38 [p 8,b 9 8] .skip))) (Sq [a 40 3,a 41 0,m 42 41,d 43 2 42,i 44 43,Z 45 456 40 44,a 39 45,o 46 39 0,o 47 39 1,a 13 46,a 14 47] (Sq [⟨some 48,none,.p (.build [.int .i64 0,.bool false] [(0,1,.c (.int .i64 (-1)))])⟩,w 49 609 48,a 15 49] (Sq [a 50 0,m 51 50,d 52 3 51,i 53 52,a 54 2,a 55 15,jp 0 53 54 55] (Qq (.drw ⟨[([g 0 0,n 1 56 0,j 2 57 1 0,k 3 58 2,g 4 1,g 5 0,g 6 13,g 8 15],some (q1 7 61 5 62 6 457)),([⟨9,[(59,some 3),(60,some 4),(63,some 7),(64,some 8)],none,.p (.build [.nilp,iz,iz,iz,iz,iz,.nilp] [(0,1,.t 59),(1,1,.t 60),(2,4,.t 63),(6,1,.t 64)])⟩,q8 10 65 9 612,y 11 66 10,zi 12 0],none)],[(0,56),(1,57),(2,58),(3,59),(4,60),(5,61),(6,62),(7,63),(8,64),(9,65),(10,66),(11,8),(12,9)],[(⟨3,[(58,(some 2))],none,.r (.ld none (.t 58))⟩,[1])]⟩) .ret)))))))),[.tmp 8,.tmp 9]⟩
@[go_sem]def c570:CF:=⟨1,(Sq [v 2 0] (Qq (.block 0 (Sq [a 4 0,u 5 605 4,a 6 5,s 7 6 0,qi 8 6 7,M 9 6 6 8,L 10 6 9,qi 11 6 10,M 12 6 1 11,L 13 6 12,r 14 6 13,a 3 14] (Kq 3 [v 2 0] (Sq [a 16 0,m 17 16,d 18 6 17,i 19 18,m 20 19,d 21 0 20,i 22 21,K 23 3 22 0,a 15 23] (Kq 15 [v 2 15] .skip))))) (Rq [v 2 16]))),[.tmp 2]⟩
@[go_sem]def c571:CF:=⟨1,(Sq [v 2 0,G 3] (Qq (Sq [a 6 0,q 7 570 6,a 2 7] (Sq [a 8 2] (.block 0 (Sq [J 10 5 8 15,a 9 10] (Cq 9 (Qq (.drw ⟨[([g 0 0,n 1 12 0,j 2 13 1 0,k 3 14 2,g 4 0,n 5 16 4,j 6 17 5 1,k 7 18 6,g 8 0,n 9 20 8,j 10 21 9 2,⟨11,[(22,some 10)],none,.p (.iadrA 4 1 (.t 22) (.c (.int .i64 0)))⟩,k 12 23 11],some (qL 13 15 3 19 7 24 12 243)),([y 14 25 13,N 15 11 14 0,N 16 11 14 1,y 17 26 15,y 18 27 16],none)],[(0,12),(1,13),(2,14),(3,15),(4,16),(5,17),(6,18),(7,19),(8,20),(9,21),(10,22),(11,23),(12,24),(13,25),(14,11),(15,26),(16,27),(17,4),(18,5)],[]⟩) (.drw ⟨[([g 0 0,n 1 28 0,j 2 29 1 6,k 3 30 2,g 4 0,g 5 4,⟨6,[(33,some 5)],none,.p (.bin .rem 51 false true (.t 33) (.c (.int .u64 2)))⟩,⟨7,[(34,some 6)],none,.p (.bin .add 51 true false (.c (.int .u64 1)) (.t 34))⟩,n 8 32 4,j 9 36 8 2,zm 10 37 9 35 7 4 1,k 11 38 10,n 12 31 3,j 13 40 12 0],some (R 14 41 13 39 11 1)),([],none)],[(0,28),(1,29),(2,30),(3,31),(4,32),(5,33),(6,34),(7,35),(8,36),(9,37),(10,38),(11,39),(12,40),(13,41)],[]⟩)) (Sq [J 43 5 8 16,a 42 43] (Cq 42 (Qq (.drw ⟨[([g 0 0,n 1 44 0,j 2 45 1 0,k 3 46 2,g 4 0,n 5 48 4,j 6 49 5 1,k 7 50 6,g 8 0,n 9 52 8,j 10 53 9 6,k 11 54 10,n 12 55 11,j 13 56 12 0,k 14 57 13],some (jq 15 47 3 51 7 58 14 458 1)),([],none)],[(0,44),(1,45),(2,46),(3,47),(4,48),(5,49),(6,50),(7,51),(8,52),(9,53),(10,54),(11,55),(12,56),(13,57),(14,58),(15,59)],[]⟩) (Oq [a 60 0,m 61 60,d 62 6 61,i 63 62,m 64 63,d 65 1 64,qE 1 65])) .skip))))))) (Rq [a 66 2,a 67 2,J 68 5 67 16,a 2 66,a 3 68]))),[.tmp 2,.tmp 3]⟩
def F143(call:CallE):Prop:=∀h W i (x:Int),(∃cs n e,h.t.get W=some (.row (putList 0 cs T.e) n e)∧cs[i]?=some (.int .u64 x))->call 143 [.ptr W i] h=some (.int .u64 x,h)
theorem w243(P:Program){call:CallE}(h91:F91 call)(h143:F143 call)(h93:F93 call){h:H}{M W:Nat}{lv:AV}{ws:List Int}{l:List AccT}(m:MemL h M W lv ws l)(hl:l.length<=1000000){t:Int}(t0:0<=t)(t1:t<64){i:Nat}{x:Int}(hx:ws[i]?=some x):
 WF P call c243 [.ptr M 0,.int .i64 t,.int .i64 (i:Int)] h fun v h'=>v=.tup [.int .u64 x,.int .i64 0]∧PostN M W lv ws (l++[⟨t,(i:Int),1,x,x,false⟩]) h h':=by
 have hi:i<ws.length:=(List.getElem?_eq_some_iff.1 hx).1
 have k1:=h91 h M W ws t (i:Int) m.mem
 rw[if_neg (by omega),if_neg (by omega)]at k1
 have k2:=h143 h W i x ⟨_,_,_,m.w,by rw[List.getElem?_map,hx];rfl⟩
 have gM:=m.g
 have e1:(i:Int)<(ws.length:Int):=by omega
 have k3:=h93 h M W lv _ l m hl ⟨t,(i:Int),1,x,x,false⟩
 simp only[go_sem,seval,k1,gM,e1,Nat.mul_one,k2]
 refine opt_by k3 fun v3 h3 p3=>?_
 obtain⟨rfl,p3⟩:=p3
 simp only[go_sem,seval]
 exact p3
def F243(call:CallE):Prop:=∀h M W lv ws l (t:Int) (i:Nat) (x:Int),MemL h M W lv ws l->l.length<=1000000->0<=t->t<64->ws[i]?=some x->∃v h',call 243 [.ptr M 0,.int .i64 t,.int .i64 (i:Int)] h=some (v,h')∧(v=.tup [.int .u64 x,.int .i64 0]∧PostN M W lv ws (l++[⟨t,(i:Int),1,x,x,false⟩]) h h')
def FAdd(call:CallE)(f:FuncId):Prop:=∀h W i (x d z:Int) cs n e,h.t.get W=some (.row (putList 0 cs T.e) n e)->cs[i]?=some (.int .u64 x)->i<n->fw .u64 (x+d)=z->call f [.ptr W i,.int .u64 d] h=some (.int .u64 z,⟨h.next,h.t.set W (.row (putList 0 (cs.set i (.int .u64 z)) T.e) n e)⟩)
theorem w463(P:Program){call:CallE}(h468:FAdd call 468){h:H}{W i:Nat}{x d z:Int}{cs:List AV}{n:Nat}{e:TypeId}(hg:h.t.get W=some (.row (putList 0 cs T.e) n e))(hi:cs[i]?=some (.int .u64 x))(hn:i<n)(hz:fw .u64 (x+d)=z):
 WF P call c463 [.ptr W i,.int .u64 d] h fun v h'=>v=.int .u64 z∧h'=⟨h.next,h.t.set W (.row (putList 0 (cs.set i (.int .u64 z)) T.e) n e)⟩:=by
 have k:=h468 h W i x d z cs n e hg hi hn hz
 simp only[go_sem,seval,k]
theorem w458(P:Program){call:CallE}(h91:F91 call)(h463:FAdd call 463)(h93:F93 call){h:H}{M W:Nat}{lv:AV}{ws:List Int}{l:List AccT}(m:MemL h M W lv ws l)(hl:l.length<=1000000){t:Int}(t0:0<=t)(t1:t<64){i:Nat}{x:Int}(hx:ws[i]?=some x)(x0:0<=x)(x1:x<=1000):
 WF P call c458 [.ptr M 0,.int .i64 t,.int .i64 (i:Int),.int .u64 1] h fun v h'=>v=.tup [.int .u64 (x+1),.int .i64 0]∧PostN M W lv (ws.set i (x+1)) (l++[⟨t,(i:Int),3,x,x+1,false⟩]) h h':=by
 have hi:i<ws.length:=(List.getElem?_eq_some_iff.1 hx).1
 have k1:=h91 h M W ws t (i:Int) m.mem
 rw[if_neg (by omega),if_neg (by omega)]at k1
 have hx1:(ws.map (AV.int .u64))[i]?=some (.int .u64 x):=by rw[List.getElem?_map,hx];rfl
 have f1:fw .u64 (x+1)=x+1:=fwU (by omega) (by omega)
 have k2:=h463 h W i x 1 (x+1) _ _ _ m.w hx1 (by rw[List.length_map];exact hi) f1
 have gM:=m.g
 have e1:(i:Int)<(ws.length:Int):=by omega
 have f2:fw .u64 (x+1-1)=x:=by rw[fwU (by omega) (by omega)];omega
 have k3:=h93 _ M W lv _ l (m.set i (x+1)) hl ⟨t,(i:Int),3,x,x+1,false⟩
 simp only[go_sem,seval,k1,gM,e1,Nat.mul_one,k2,f2]
 refine opt_by k3 fun v3 h3 p3=>?_
 obtain⟨rfl,lv',m3,lo3,st3⟩:=p3
 simp only[go_sem,seval]
 refine⟨lv',m3,lo3,st3.next,fun b hb hn=>?_⟩
 rw[st3.old b hb hn]
 have e2:¬b=W:=fun e=>hn (.inr (.inl e))
 simp only[go_sem,seval,e2]
def F458(call:CallE):Prop:=∀h M W lv ws l (t:Int) (i:Nat) (x:Int),MemL h M W lv ws l->l.length<=1000000->0<=t->t<64->ws[i]?=some x->0<=x->x<=1000->∃v h',call 458 [.ptr M 0,.int .i64 t,.int .i64 (i:Int),.int .u64 1] h=some (v,h')∧(v=.tup [.int .u64 (x+1),.int .i64 0]∧PostN M W lv (ws.set i (x+1)) (l++[⟨t,(i:Int),3,x,x+1,false⟩]) h h')
theorem w459{h:H}{G:Nat}{t:Int}(t0:0<=t)(t1:t<64):WF P call c459 [.ptr G 0,.int .i64 t] h fun v h'=>v=.int .i64 0∧h'=h:=by
 have e1:¬t<0:=by omega
 have e2:¬(64:Int)<=t:=by omega
 simp only[go_sem,seval,e1,e2,t1]
theorem w455(h459:FThr call 459){h:H}{G:Nat}{t:Int}(t0:0<=t)(t1:t<64){s:Int}(s0:0<=s)(s1:s<64):WF P call c455 [.ptr G 0,.int .i64 t,.int .i64 s] h fun v h'=>v=.int .i64 0∧h'=h:=by
 have k:=h459 h G t t0 t1
 have e1:¬s<0:=by omega
 have e2:¬(64:Int)<=s:=by omega
 simp only[go_sem,seval,k,e1,e2,s1]
def F455(call:CallE):Prop:=∀h G (t s:Int),0<=t->t<64->0<=s->s<64->call 455 [.ptr G 0,.int .i64 t,.int .i64 s] h=some (.int .i64 0,h)
theorem w462(P:Program){call:CallE}{h:H}{n:Int}(h1:1<=n)(h2:n<=16):WF P call c462 [.int .i64 n] h fun v h'=>v=.int .i64 0∧h'=h:=by
 have e1:¬n<1:=by omega
 have e2:¬16<n:=by omega
 simp only[go_sem,seval,e1,e2]
theorem w456(P:Program){call:CallE}(h462:∀h (n:Int),1<=n->n<=16->call 462 [.int .i64 n] h=some (.int .i64 0,h)){h:H}{n:Int}(h1:1<=n)(h2:n<=16):WF P call c456 [.int .i64 0,.int .i64 n] h fun v h'=>v=.tup [.int .i64 0,.int .i64 0]∧h'=h:=by
 have k:=h462 h n h1 h2
 have z:¬n=0:=by omega
 have m0:Int.tmod 0 n=0:=Int.zero_tmod n
 have f0:fw .i64 0=0:=rfl
 simp only[go_sem,seval,k,z,m0,f0]
def F456(call:CallE):Prop:=∀h (n:Int),1<=n->n<=16->call 456 [.int .i64 0,.int .i64 n] h=some (.tup [.int .i64 0,.int .i64 0],h)
def quad(bs:Nat):List AV:=[.int .i64 (bs:Int),.int .i64 ((bs:Int)+1),.int .i64 ((bs:Int)+2),.int .i64 ((bs:Int)+3)]
theorem w457{h:H}{G bs:Nat}{a b c:AV}(gG:h.t.get G=some (rowL [a,.int .i64 (bs:Int),b,c] 433))(lG:G<h.next)(hb:bs<=60000):WF P call c457 [.ptr G 0,.int .i64 0] h fun v h'=>v=.agg (quad bs)∧StepN h h':=by
 have n1:¬G=h.next:=by omega
 have n2:¬G=h.next+1:=by omega
 have f0:fw .i64 0=0:=rfl
 have f1:fw .i64 1=1:=rfl
 have f2:fw .i64 2=2:=rfl
 have f3:fw .i64 3=3:=rfl
 have f4:fw .i64 4=4:=rfl
 have fb:fw .i64 (bs:Int)=(bs:Int):=fwI (by omega) (by omega)
 have fb1:fw .i64 ((bs:Int)+1)=(bs:Int)+1:=fwI (by omega) (by omega)
 have fb2:fw .i64 ((bs:Int)+2)=(bs:Int)+2:=fwI (by omega) (by omega)
 have fb3:fw .i64 ((bs:Int)+3)=(bs:Int)+3:=fwI (by omega) (by omega)
 simp only[go_sem,↓reduceIte,↓reduceDIte,Nat.reduceAdd,Nat.reduceMul,Nat.reduceLT,Nat.reduceEqDiff,Nat.reduceLeDiff,Int.reduceAdd,Int.reduceLE,Int.reduceLT,Int.reduceEq,Int.reduceToNat,reduceCtorEq]
 refine unroll 5 ?_
 simp only[go_sem,↓reduceIte,↓reduceDIte,Nat.reduceAdd,Nat.reduceMul,Nat.reduceLT,Nat.reduceEqDiff,Nat.reduceLeDiff,Int.reduceAdd,Int.reduceLE,Int.reduceLT,Int.reduceEq,Int.reduceToNat,reduceCtorEq,c457_l7,gG,n1,n2,f0,f1,f2,f3,f4,fb,fb1,fb2,fb3,Int.add_zero]
 have f40:fw .i64 (4*0)=0:=rfl
 simp only[f40,Int.add_zero,fb,fb1,fb2,fb3]
 refine⟨rfl,by show h.next<=h.next+2;omega,fun b hb=>?_⟩
 have e1:¬b=h.next:=by omega
 have e2:¬b=h.next+1:=by omega
 simp only[go_sem,↓reduceIte,↓reduceDIte,Nat.reduceAdd,Nat.reduceMul,Nat.reduceLT,Nat.reduceEqDiff,Nat.reduceLeDiff,Int.reduceAdd,Int.reduceLE,Int.reduceLT,Int.reduceEq,Int.reduceToNat,reduceCtorEq,e1,e2]
def F457(call:CallE):Prop:=∀h G (bs:Nat) a b c,h.t.get G=some (rowL [a,.int .i64 (bs:Int),b,c] 433)->G<h.next->bs<=60000->∃v h',call 457 [.ptr G 0,.int .i64 0] h=some (v,h')∧(v=.agg (quad bs)∧StepN h h')
def appR(o:Option Bool)(j:Nat)(v:AV):Option (Option (Nat×AV)):=match o with
 |some true=>some (some (j,v))
 |some false=>some none
 |none=>none
theorem findA_app{kd:Nat}{k:AV}{e:AV×AV×Nat}:∀{es:List (AV×AV×Nat)} {i:Nat},findA kd k es i=some none->findA kd k (es++[e]) i=appR (keyEq kd k e.1) (i+es.length) e.2.1
 | [],i,_=>by
   show findA kd k [e] i=_
   unfold findA appR
   cases keyEq kd k e.1 with
   |none=>rfl
   |some b=>cases b<;>rfl
 |x::es,i,h=>by
  show findA kd k (x::(es++[e])) i=_
  unfold findA at h⊢
  cases hk:keyEq kd k x.1 with
  |none=>rw[hk]at h;cases h
  |some b=>
   rw[hk]at h
   cases b with
   |true=>cases h
   |false=>
    rw[List.length_cons]
    have:=findA_app (e:=e) (i:=i+1) (es:=es) h
    simp only[]at this⊢
    rw[this,Nat.add_assoc,Nat.add_comm 1]
theorem findA_app1{kd:Nat}{k:AV}{e:AV×AV×Nat}{r:Nat×AV}:∀{es:List (AV×AV×Nat)} {i:Nat},findA kd k es i=some (some r)->findA kd k (es++[e]) i=some (some r)
 | [],i,h=>by cases h
 |x::es,i,h=>by
  show findA kd k (x::(es++[e])) i=_
  unfold findA at h⊢
  cases hk:keyEq kd k x.1 with
  |none=>rw[hk]at h;cases h
  |some b=>
   rw[hk]at h
   cases b with
   |true=>exact h
   |false=>exact findA_app1 h
theorem keyEq_int(a b:Int):keyEq 0 (.int .i64 a) (.int .i64 b)=some (decide (a=b)):=by
 show cond true (some (iEq a b)) none=_
 rw[iEq_eq]
 rfl
def FindG(Sx:Nat->Prop)(h:H)(es:List (AV×AV×Nat))(nu:List Int):Prop:=∀i:Nat,i<64->
 (nu[i]?=some 1->∃j Z c,findA 0 (.int .i64 (i:Int)) es 0=some (some (j,.ptr Z 0))∧h.t.get Z=some (rowL [c,.bool true] 609)∧Z<h.next∧Sx Z)∧(nu[i]?≠some 1->findA 0 (.int .i64 (i:Int)) es 0=some none)
theorem FindG.keep{Sx:Nat->Prop}{h h':H}{es:List (AV×AV×Nat)}{nu:List Int}(f:FindG Sx h es nu)(hn:h.next<=h'.next)(k:∀b c,b<h.next->Sx b->h.t.get b=some (rowL [c,.bool true] 609)->h'.t.get b=h.t.get b):FindG Sx h' es nu:=fun i hi=>
 ⟨fun h1=>by
   obtain⟨j,Z,c,a1,a2,a3,a4⟩:=(f i hi).1 h1
   exact⟨j,Z,c,a1,(k Z c a3 a4 a2).trans a2,Nat.lt_of_lt_of_le a3 hn,a4⟩,(f i hi).2⟩
structure GateE(Sx:Nat->Prop)(h:H)(M bs nb G S:Nat)(es:List (AV×AV×Nat))(nu:List Int):Prop where
 gG:h.t.get G=some (rowL [.ptr M 0,.int .i64 (bs:Int),.int .i64 (nb:Int),.map S] 433)
 gS:∃clk,h.t.get S=some (.map es clk)
 f:FindG Sx h es nu
 nb1:1<=nb
 nb2:nb<=16
 lG:G<h.next
 lS:S<h.next
structure GateP(Sx:Nat->Prop)(h:H)(M bs nb G S:Nat)(es:List (AV×AV×Nat))(nu:List Int)(t:Int)(s X Y:Nat)(c:Int)(b:Bool):Prop where
 gG:h.t.get G=some (rowL [.ptr M 0,.int .i64 (bs:Int),.int .i64 (nb:Int),.map S] 433)
 gS:∃clk k,h.t.get S=some (.map (es++[(.int .i64 (s:Int),.ptr Y 0,k)]) clk)
 f:FindG Sx h es nu
 nb1:1<=nb
 nb2:nb<=16
 lG:G<h.next
 lS:S<h.next
 gX:h.t.get X=some (rowL [.ptr M 0,.int .i64 t,.int .i64 (bs:Int),.int .i64 ((bs:Int)+1),.int .i64 ((bs:Int)+2),.int .i64 ((bs:Int)+3),.ptr Y 0] 612)
 gY:h.t.get Y=some (rowL [.int .i64 c,.bool b] 609)
 lX:X<h.next
 lY:Y<h.next
 ns:nu[s]?=some 0
theorem GateP.done{Sx:Nat->Prop}{h:H}{M bs nb G S:Nat}{es:List (AV×AV×Nat)}{nu:List Int}{t:Int}{s X Y:Nat}{c:Int}(m:GateP Sx h M bs nb G S es nu t s X Y c true):∃es',GateE (fun b=>Sx b∨b=Y) h M bs nb G S es' (nu.set s 1):=by
 obtain⟨clk,k,gS⟩:=m.gS
 refine⟨_,m.gG,⟨clk,gS⟩,fun i hi=>?_,m.nb1,m.nb2,m.lG,m.lS⟩
 have hsl:s<nu.length:=(List.getElem?_eq_some_iff.1 m.ns).1
 by_cases e:i=s
 ·subst e
  refine⟨fun _=>?_,fun h1=>absurd (List.getElem?_set_self hsl) h1⟩
  have h0:=(m.f i hi).2 (by rw[m.ns];simp)
  have h1:=findA_app (e:=(.int .i64 (i:Int),.ptr Y 0,k)) h0
  rw[keyEq_int]at h1
  simp only[decide_true,appR]at h1
  exact⟨_,Y,_,h1,m.gY,m.lY,.inr rfl⟩
 ·rw[List.getElem?_set_ne (fun q=>e q.symm)]
  refine⟨fun h1=>?_,fun h1=>?_⟩
  ·obtain⟨j,Z,c',a1,a2,a3,a4⟩:=(m.f i hi).1 h1
   exact⟨j,Z,c',findA_app1 a1,a2,a3,.inl a4⟩
  ·have h0:=(m.f i hi).2 h1
   have h1:=findA_app (e:=(.int .i64 (s:Int),.ptr Y 0,k)) h0
   rw[keyEq_int]at h1
   have e1:¬(i:Int)=(s:Int):=by omega
   simp only[e1,decide_false,appR]at h1
   exact h1
def PostEC(Sx:Nat->Prop)(M bs nb G S:Nat)(es:List (AV×AV×Nat))(nu:List Int)(s:Nat)(x t:Int)(h:H)(v:AV)(h':H):Prop:=
 (x=1∧v=.tup [.nilp,.int .i64 8]∧h'=h)∨(x=0∧∃X Y,v=.tup [.ptr X 0,.int .i64 0]∧h.next<=X∧h.next<=Y∧GateP Sx h' M bs nb G S es nu t s X Y (-1) false∧Tch (fun b=>b=S) h h')
theorem w451(h455:F455 call)(h456:F456 call)(h457:F457 call){Sx:Nat->Prop}{h:H}{M bs nb G S:Nat}{es:List (AV×AV×Nat)}{nu:List Int}(m:GateE Sx h M bs nb G S es nu)(hb:bs<=60000){t:Int}(t0:0<=t)(t1:t<64){s:Nat}(hs:s<64){x:Int}(hx:nu[s]?=some x)(x1:x=0∨x=1):
 WF P call c451 [.ptr G 0,.int .i64 t,.int .i64 (s:Int),.int .i64 0] h (PostEC Sx M bs nb G S es nu s x t h):=by
 have gG:=m.gG
 obtain⟨clk,gS⟩:=m.gS
 have lG:=m.lG
 have lS:=m.lS
 have k1:=h455 h G t s t0 t1 (by omega) (by omega)
 have kA:keyA 0 (.int .i64 (s:Int))=true:=rfl
 have GS:¬G=S:=fun e=>by rw[e,gS]at gG;cases gG
 rcases x1 with rfl|rfl
 ·have hf:=(m.f s hs).2 (by rw[hx];simp)
  have k2:=h456 h nb (by have:=m.nb1;omega) (by have:=m.nb2;omega)
  have S1:¬S=h.next:=by omega
  have G1:¬G=h.next:=by omega
  simp only[go_sem,seval,k1,gG,gS,kA,hf,k2,S1,G1,evM,Go.Proofs.YtghmnaojmpjglaaGreatDoor.Eo.evL,GS]
  refine opt_by (h457 _ G bs (.ptr M 0) (.int .i64 (nb:Int)) (.map S) ?_ ?_ hb) fun v1 h1 p1=>?_
  ·simp only[go_sem,seval,G1,GS]
   exact gG
  ·show G<h.next+1
   omega
  obtain⟨rfl,st1⟩:=p1
  have nx1:h.next+1<=h1.next:=st1.next
  have gY1:=st1.old h.next (by show h.next<h.next+1;omega)
  have gG1:=st1.old G (by show G<h.next+1;omega)
  have gS1:=st1.old S (by show S<h.next+1;omega)
  have S2:¬h.next=S:=by omega
  simp only[go_sem,seval,S2]at gY1
  simp only[go_sem,seval,G1,GS]at gG1
  simp only[go_sem,seval,S1]at gS1
  rw[gG]at gG1
  have G2:¬G=h1.next:=by omega
  have S3:¬S=h1.next:=by omega
  have Y3:¬h.next=h1.next:=by omega
  simp only[go_sem,seval,quad,gG1,nx1,G2]
  refine .inr ⟨rfl,h1.next,h.next,rfl,by omega,Nat.le_refl _,⟨by simp only[go_sem,seval,G2];exact gG1,⟨_,clk,by simp only[go_sem,seval,S3];exact gS1⟩,m.f.keep (by show h.next<=h1.next+1;omega) fun b c lb sb gb=>?_,m.nb1,m.nb2,by show G<h1.next+1;omega,by show S<h1.next+1;omega,by simp only[go_sem,seval];rfl,by simp only[go_sem,seval,Y3];exact gY1,Nat.lt_succ_self _,by show h.next<h1.next+1;omega,hx⟩,by show h.next<=h1.next+1;omega,fun b hb hn=>?_⟩
  ·have b1:¬b=h1.next:=by omega
   have b2:¬b=h.next:=by omega
   have b3:¬b=S:=fun e=>by rw[e,gS]at gb;cases gb
   have q:=st1.old b (by show b<h.next+1;omega)
   simp only[go_sem,seval,b2,b3]at q
   simp only[go_sem,seval,b1,q]
  ·have b1:¬b=h1.next:=by omega
   have b2:¬b=h.next:=by omega
   have q:=st1.old b (by show b<h.next+1;omega)
   simp only[go_sem,seval,b2,hn]at q
   simp only[go_sem,seval,b1,q]
 ·obtain⟨j,Z,c,hf,-⟩:=(m.f s hs).1 hx
  simp only[go_sem,seval,k1,gG,gS,kA,hf,Go.Proofs.YtghmnaojmpjglaaGreatDoor.Eo.evL]
  exact .inl ⟨rfl,rfl,rfl⟩
theorem GateP.keep{Sx:Nat->Prop}{h h':H}{M bs nb G S:Nat}{es:List (AV×AV×Nat)}{nu:List Int}{t:Int}{s X Y:Nat}{c:Int}{d:Bool}(m:GateP Sx h M bs nb G S es nu t s X Y c d)(hn:h.next<=h'.next)(k:∀b,b<h.next->(b=G∨b=S∨b=X∨b=Y∨Sx b∧∃c,h.t.get b=some (rowL [c,.bool true] 609))->h'.t.get b=h.t.get b):GateP Sx h' M bs nb G S es nu t s X Y c d:=by
 obtain⟨clk,j,gS⟩:=m.gS
 exact⟨(k G m.lG (.inl rfl)).trans m.gG,⟨clk,j,(k S m.lS (.inr (.inl rfl))).trans gS⟩,m.f.keep hn fun b c lb sb gb=>k b lb (.inr (.inr (.inr (.inr ⟨sb,c,gb⟩)))),m.nb1,m.nb2,Nat.lt_of_lt_of_le m.lG hn,Nat.lt_of_lt_of_le m.lS hn,(k X m.lX (.inr (.inr (.inl rfl)))).trans m.gX,(k Y m.lY (.inr (.inr (.inr (.inl rfl))))).trans m.gY,Nat.lt_of_lt_of_le m.lX hn,Nat.lt_of_lt_of_le m.lY hn,m.ns⟩
theorem w570{h:H}{X Y:Nat}{a b c d e f:AV}{n:Int}{en:Bool}(gX:h.t.get X=some (rowL [a,b,c,d,e,f,.ptr Y 0] 612))(gY:h.t.get Y=some (rowL [.int .i64 n,.bool en] 609)):WF P call c570 [.ptr X 0] h fun v h'=>v=.int .u8 (if en then 0 else if n<0 then 15 else 16)∧h'=h:=by
 cases en with
 |true=>
  simp only[go_sem,seval,gX,gY]
 |false=>
  by_cases hn:n<0
  ·simp only[go_sem,seval,gX,gY,hn]
  ·simp only[go_sem,seval,gX,gY,hn]
def F570(call:CallE):Prop:=∀h X Y a b c d e f (n:Int) en,h.t.get X=some (rowL [a,b,c,d,e,f,.ptr Y 0] 612)->h.t.get Y=some (rowL [.int .i64 n,.bool en] 609)->call 570 [.ptr X 0] h=some (.int .u8 (if en then 0 else if n<0 then 15 else 16),h)
def PostSC(Sx:Nat->Prop)(M W bs nb G S:Nat)(es:List (AV×AV×Nat))(nu:List Int)(t:Int)(s X Y:Nat)(c:Int)(d:Bool)(lv:AV)(ws:List Int)(l:List AccT)(h h':H):Prop:=
 ∃lv',MemL h' M W lv' ws l∧GateP Sx h' M bs nb G S es nu t s X Y c d∧(∀b,own lv'=some b->h.next<=b)∧Tch (fun b=>memS M W lv b∨b=Y) h h'
theorem row2{a b c d:AV}{e:TypeId}(h:rowL [a,b] e=rowL [c,d] e):a=c∧b=d:=by
 have h1:=congrArg (fun o=>match o with|AO.row t _ _=>(t.get 0,t.get 1)|_=>(none,none)) h
 simp[rowL,go_sem]at h1
 exact h1
theorem GateP.setY{Sx:Nat->Prop}{h:H}{M bs nb G S:Nat}{es:List (AV×AV×Nat)}{nu:List Int}{t:Int}{s X Y:Nat}{c:Int}(m:GateP Sx h M bs nb G S es nu t s X Y c false)(c':Int)(d:Bool):GateP Sx ⟨h.next,h.t.set Y (.row (putList 0 [.int .i64 c',.bool d] T.e) 2 609)⟩ M bs nb G S es nu t s X Y c' d:=by
 obtain⟨clk,j,gS⟩:=m.gS
 have GY:¬G=Y:=rowL_ne m.gG m.gY (by decide)
 have XY:¬X=Y:=rowL_ne m.gX m.gY (by decide)
 have SY:¬S=Y:=fun e=>by
  have:=m.gY
  rw[←e,gS]at this
  cases this
 refine⟨by simp only[go_sem,seval,GY];exact m.gG,⟨clk,j,by simp only[go_sem,seval,SY];exact gS⟩,m.f.keep (Nat.le_refl _) fun b c2 lb sb gb=>?_,m.nb1,m.nb2,m.lG,m.lS,by simp only[go_sem,seval,XY];exact m.gX,by simp only[go_sem,seval];rfl,m.lX,m.lY,m.ns⟩
 have bY:¬b=Y:=fun e=>by
  rw[e,m.gY]at gb
  have:=(row2 (Option.some.inj gb)).2
  cases this
 simp only[go_sem,seval,bY]
theorem PostSC_mk{Sx:Nat->Prop}{h h1:H}{M W bs nb G S:Nat}{es:List (AV×AV×Nat)}{nu:List Int}{t:Int}{s X Y:Nat}{c:Int}{lv:AV}{ws':List Int}{l':List AccT}(m:GateP Sx h M bs nb G S es nu t s X Y c false)(hd:∀b,(b=G∨b=S∨b=X∨b=Y∨Sx b∧∃c,h.t.get b=some (rowL [c,.bool true] 609))->¬memS M W lv b)(p:PostN M W lv ws' l' h h1)(c':Int)(d:Bool):
 PostSC Sx M W bs nb G S es nu t s X Y c' d lv ws' l' h ⟨h1.next,h1.t.set Y (.row (putList 0 [.int .i64 c',.bool d] T.e) 2 609)⟩:=by
 obtain⟨lv',m1,lo1,st1⟩:=p
 have m2:=m.keep st1.next fun b lb hb=>st1.old b lb (hd b hb)
 have dY:¬memS M W lv' Y:=fun hS=>by
  rcases hS with e|e|e
  ·exact hd Y (.inr (.inr (.inr (.inl rfl)))) (.inl e)
  ·exact hd Y (.inr (.inr (.inr (.inl rfl)))) (.inr (.inl e))
  ·have q:=lo1 Y e
   have:=m.lY
   omega
 refine⟨lv',m1.keep (Nat.le_refl _) fun b hb hS=>?_,m2.setY c' d,lo1,st1.next,fun b hb hn=>?_⟩
 ·have q:¬b=Y:=fun e=>dY (e▸hS)
  simp only[go_sem,seval,q]
 ·have q:¬b=Y:=fun e=>hn (.inr e)
  simp only[go_sem,seval,q]
  exact st1.old b hb fun e=>hn (.inl e)
theorem w571z(h570:F570 call){Sx:Nat->Prop}{h:H}{M bs nb G S:Nat}{es:List (AV×AV×Nat)}{nu:List Int}{t:Int}{s X Y:Nat}{c:Int}(m:GateP Sx h M bs nb G S es nu t s X Y c true):WF P call c571 [.ptr X 0] h fun v h'=>v=.tup [.int .u8 0,.bool false]∧h'=h:=by
 have k:=h570 h X Y _ _ _ _ _ _ c true m.gX m.gY
 simp only[go_sem,seval,k]
theorem w571a(h570:F570 call)(h243:F243 call){Sx:Nat->Prop}{h:H}{M W bs nb G S:Nat}{es:List (AV×AV×Nat)}{nu:List Int}{t:Int}{s X Y:Nat}{lv:AV}{ws:List Int}{l:List AccT}(m:GateP Sx h M bs nb G S es nu t s X Y (-1) false)(mm:MemL h M W lv ws l)(hl:l.length<=1000000)(hd:∀b,(b=G∨b=S∨b=X∨b=Y∨Sx b∧∃c,h.t.get b=some (rowL [c,.bool true] 609))->¬memS M W lv b)
 (t0:0<=t) (t1:t<64) (hw:ws[bs]?=some 0):WF P call c571 [.ptr X 0] h fun v h'=>v=.tup [.int .u8 15,.bool false]∧PostSC Sx M W bs nb G S es nu t s X Y ((bs:Int)+1) false lv ws (l++[⟨t,(bs:Int),1,0,0,false⟩]) h h':=by
 have k:=h570 h X Y _ _ _ _ _ _ (-1) false m.gX m.gY
 have gX:=m.gX
 have m0:Int.tmod 0 2=0:=rfl
 have f1:fw .u64 1=1:=rfl
 simp only[go_sem,seval,k,gX]
 refine opt_by (h243 h M W lv ws l t bs 0 mm hl t0 t1 hw) fun v1 h1 p1=>?_
 obtain⟨rfl,p1⟩:=p1
 have p2:=p1
 obtain⟨lv',m1,lo1,st1⟩:=p2
 have nx1:=st1.next
 have m2:=m.keep nx1 fun b lb hb=>st1.old b lb (hd b hb)
 have gX1:=m2.gX
 have gY1:=m2.gY
 simp only[go_sem,seval,gX1,gY1,nx1,m0,f1]
 exact PostSC_mk m hd p1 _ _
theorem w571b(h570:F570 call)(h458:F458 call){Sx:Nat->Prop}{h:H}{M W bs nb G S:Nat}{es:List (AV×AV×Nat)}{nu:List Int}{t:Int}{s X Y:Nat}{lv:AV}{ws:List Int}{l:List AccT}(m:GateP Sx h M bs nb G S es nu t s X Y ((bs:Int)+1) false)(mm:MemL h M W lv ws l)(hl:l.length<=1000000)(hd:∀b,(b=G∨b=S∨b=X∨b=Y∨Sx b∧∃c,h.t.get b=some (rowL [c,.bool true] 609))->¬memS M W lv b)
 (t0:0<=t) (t1:t<64) {x:Int} (hw:ws[bs+1]?=some x) (x0:0<=x) (x1:x<=1000):WF P call c571 [.ptr X 0] h fun v h'=>v=.tup [.int .u8 16,.bool true]∧PostSC Sx M W bs nb G S es nu t s X Y ((bs:Int)+1) true lv (ws.set (bs+1) (x+1)) (l++[⟨t,((bs+1:Nat):Int),3,x,x+1,false⟩]) h h':=by
 have k:=h570 h X Y _ _ _ _ _ _ ((bs:Int)+1) false m.gX m.gY
 have gX:=m.gX
 have gY:=m.gY
 have n1:¬(bs:Int)+1<0:=by omega
 simp only[go_sem,seval,k,gX,gY,n1,Bool.false_eq_true]
 refine opt_by (h458 h M W lv ws l t (bs+1) x mm hl t0 t1 hw x0 x1) fun v1 h1 p1=>?_
 obtain⟨rfl,p1⟩:=p1
 have p2:=p1
 obtain⟨lv',m1,lo1,st1⟩:=p2
 have nx1:=st1.next
 have m2:=m.keep nx1 fun b lb hb=>st1.old b lb (hd b hb)
 have gX1:=m2.gX
 have gY1:=m2.gY
 simp only[go_sem,seval,gX1,gY1,nx1]
 exact PostSC_mk m hd p1 _ _
theorem GateE.keep{Sx:Nat->Prop}{h h':H}{M bs nb G S:Nat}{es:List (AV×AV×Nat)}{nu:List Int}(m:GateE Sx h M bs nb G S es nu)(hn:h.next<=h'.next)(k:∀b,b<h.next->(b=G∨b=S∨Sx b∧∃c,h.t.get b=some (rowL [c,.bool true] 609))->h'.t.get b=h.t.get b):GateE Sx h' M bs nb G S es nu:=by
 obtain⟨clk,gS⟩:=m.gS
 exact⟨(k G m.lG (.inl rfl)).trans m.gG,⟨clk,(k S m.lS (.inr (.inl rfl))).trans gS⟩,m.f.keep hn fun b c lb sb gb=>k b lb (.inr (.inr ⟨sb,c,gb⟩)),m.nb1,m.nb2,Nat.lt_of_lt_of_le m.lG hn,Nat.lt_of_lt_of_le m.lS hn⟩
end
end Go.Proofs.YtghmnaojmpjglaaGreatDoor.PR
