/-
  What functions of the program compute. Conditions: those of each theorem.
-/
import Derived.Test.YtgkjlklfjbljeaaGreatCwB
set_option linter.all false
namespace Go.Proofs.YtgkjlklfjbljeaaGreat.CQ
open Go.Proofs.YtgkjlklfjbljeaaGreat.Eo
noncomputable section
variable(P:Program)[PT P]{call:ab}
@[go_sem]def c58:CF:=⟨2,(Sq [p 4,b 5 0] (Qq (Sq [a 11 0,y 12 47 11,a 13 12,r 14 13 1,zw 15 13 43 14,u 16 13 15] (Kq 16 [p 4,b 5 1] .skip)) (Sq [a 17 1,q 18 18 17,jf 6 60 0 0 0 0 0 0 0 0 0 0,s 10 6 18] (Qq (Sq [a 20 0,d 21 9 6,i 22 21,ql 23 3 22 1,M 24 90 20 23,a 19 24,o 25 19 0,o 26 19 1,a 7 25,a 8 26] (Sq [a 27 8,qa 28 27] (Kq 28 [p 4,b 5 2] .skip))) (Qq (Sq [a 30 0,d 31 9 6,i 32 31,M 33 90 30 32,a 29 33,o 34 29 0,o 35 29 1,a 9 34,a 10 35] (Sq [a 36 10] (Kq 36 [p 4,b 5 2] .skip))) (Qq (.cn ⟨[([g 0 0,g 1 1,R 2 6 5,k 3 39 2,R 4 6 6,k 5 41 4,⟨6,[],none,.n .Fk⟩,g 7 1],some (Z 8 44 7 124)),([zg 9 45 8 8 3 1 8 0,⟨10,[(37,some 0),(38,some 1),(40,some 3),(42,some 5),(43,some 6),(46,some 9)],none,.p (.build [.aJ,.aJ,aN,aN,.kH,.ax] [(0,1,.t 37),(1,1,.t 38),(2,1,.t 40),(3,1,.t 42),(4,1,.t 43),(5,1,.t 46)])⟩,qY 11 47 10 230,t 12 48 11,qS 13 0],none)],[(0,37),(1,38),(2,39),(3,40),(4,41),(5,42),(6,43),(7,44),(8,45),(9,46),(10,47),(11,48),(12,4),(13,5)],[(⟨3,[(39,(some 2))],none,.r (.ld none (.t 39))⟩,[0,1]),(⟨5,[(41,(some 4))],none,.r (.ld none (.t 41))⟩,[0,1])]⟩) .ret)))))),[.tmp 4,.tmp 5]⟩
@[go_sem]def c59:CF:=⟨2,(Sq [p 4,b 5 0] (Qq (Sq [a 6 0,y 7 47 6,a 8 7,r 9 8 1,zw 10 8 43 9,u 11 8 10] (Kq 11 [p 4,b 5 1] .skip)) (Qq (Sq [a 12 0,q 13 17 12,N 14 13,a 15 1,q 16 18 15,qT 17 3 9 16,qZ 18 3 14 17] (Kq 18 [p 4,b 5 2] .skip)) (Rq [a 19 0,a 20 1,zQ 21 0 1 19 1 1 20,z 22 123 21,a 4 22,b 5 0])))),[.tmp 4,.tmp 5]⟩
@[go_sem]def IC:CF:=⟨1,(Sq [z 1 27 0,p 2,b 3 0] (Sq [S 8 16 1,q 9 55 8,a 7 9,o 10 7 0,o 11 7 1,a 4 10,a 5 11] (Qq (Sq [a 12 5,A 13 41 12 0] (Kq 13 [a 14 5,p 2,a 3 14] .skip)) (Sq [a 15 4,⟨some 16,none,.p (.build [.aJ,.aJ,.aJ,.aJ,.aJ] [(0,1,.t 15)])⟩,zf 17,zf 18,⟨some 19,none,.p (.build [.aJ,.aJ,.aJ,.aJ,.aJ,.ax,.ax,.kH,.kH] [(0,5,.t 16),(7,1,.t 17),(8,1,.t 18)])⟩,z 20 104 19,a 6 20] (Qq (Sq [a 22 6,a 23 4,q 24 57 23,q 25 56 24,a 21 25,o 26 21 0,o 27 21 1,j 28 22,d 29 0 28,d 30 1 29,s 1 30 26,a 5 27] (Sq [a 31 5,A 32 41 31 0] (Kq 32 [a 33 5,p 2,a 3 33] .skip))) (Qq (Sq [a 35 6,a 36 6,j 37 36,d 38 0 37,d 39 1 38,i 40 39,a 41 4,M 42 58 40 41,a 34 42,o 43 34 0,o 44 34 1,j 45 35,d 46 0 45,d 47 2 46,s 1 47 43,a 5 44] (Sq [a 48 5,A 49 41 48 0] (Kq 49 [a 50 5,p 2,a 3 50] .skip))) (Qq (Sq [a 52 6,a 53 6,j 54 53,d 55 0 54,d 56 1 55,i 57 56,a 58 4,M 59 59 57 58,a 51 59,o 60 51 0,o 61 51 1,j 62 52,d 63 0 62,d 64 3 63,s 1 64 60,a 5 61] (Sq [a 65 5,A 66 41 65 0] (Kq 66 [a 67 5,p 2,a 3 67] .skip))) (Qq (Qq (.cn ⟨[([g 0 6,g 1 6,n 2 70 1,m 3 71 2 0,m 4 72 3 1,k 5 73 4,R 6 1 2,k 7 75 6,g 8 4,R 11 1 1,k 12 80 11,R 13 1 3,k 14 82 13],some (Z 9 77 8 18)),([zx 10 78 9 3 1],some (qU 15 74 5 76 7 79 10 81 12 83 14 60)),([t 16 84 15,B 17 68 16 0,B 18 68 16 1,n 19 69 0,m 20 87 19 0,m 21 88 20 4],some (V 22 89 21 85 17 1)),([t 23 86 18],none)],[(0,69),(1,70),(2,71),(3,72),(4,73),(5,74),(6,75),(7,76),(8,77),(9,78),(10,79),(11,80),(12,81),(13,82),(14,83),(15,84),(16,68),(17,85),(18,86),(19,87),(20,88),(21,89),(23,5)],[(⟨5,[(73,(some 4))],none,.r (.ld none (.t 73))⟩,[1]),(⟨7,[(75,(some 6))],none,.r (.ld none (.t 75))⟩,[1]),(⟨12,[(80,(some 11))],none,.r (.ld none (.t 80))⟩,[1]),(⟨14,[(82,(some 13))],none,.r (.ld none (.t 82))⟩,[1])]⟩) (Sq [a 90 5,A 91 41 90 0] (Kq 91 [a 92 5,p 2,a 3 92] .skip))) (Rq [a 93 6,a 2 93,b 3 0]))))))))),[.tmp 2,.tmp 3]⟩
structure CE(M W:Nat)(h h':H):Prop where
 next:h.next<=h'.next
 old:∀b,b<h.next->b≠M->b≠W->h'.t.get b=h.t.get b
theorem ae.Qt{M W:Nat}{a b c:H}(h:ae a b)(k:CE M W b c)(hM:a.next<=M)(hW:a.next<=W):ae a c:=⟨Nat.le_trans h.next k.next,fun x hx=>(k.old x (Nat.lt_of_lt_of_le hx h.next) (by omega) (by omega)).trans (h.old x hx)⟩
theorem yH.off{h h':H}{M W R n:Nat}{ws:List Int}{lg:AV}(p:yH h R n)(m:yc h M W ws lg)(s:CE M W h h'):yH h' R n:=by
 have l:∀{a},a<h.next->a<h'.next:=fun ha=>Nat.lt_of_lt_of_le ha s.next
 have gM:=m.g;have gW:=m.w;have k:∀{b cells len e},b<h.next->h.t.get b=some (.row cells len e)->e≠119->e≠115->h'.t.get b=some (.row cells len e):=fun{b cells len e} hb g n1 n2=>by
  refine(s.old b hb (fun e=>?_) (fun e=>?_)).trans g
  ·subst e;rw[gM]at g;simp at g;exact n1 g.2.2.symm
  ·subst e;rw[gW]at g;simp[ag]at g;exact n2 g.2.2.symm
 cases p with
 |full G N B M' base kind gR gG gN lR lG lN=>exact .full G N B M' base kind (k lR gR (by decide) (by decide)) (k lG gG (by decide) (by decide)) (k lN gN (by decide) (by decide)) (l lR) (l lG) (l lN)
 |each G N M' fv kind gR gG gN lR lG lN=>exact .each G N M' fv kind (k lR gR (by decide) (by decide)) (k lG gG (by decide) (by decide)) (k lN gN (by decide) (by decide)) (l lR) (l lG) (l lN)
 |gate G S M' base nb kind gR gG gS lR lG lS=>
  refine .gate G S M' base nb kind (k lR gR (by decide) (by decide)) (k lG gG (by decide) (by decide)) ((s.old S lS (fun e=>?_) (fun e=>?_)).trans gS) (l lR) (l lG) (l lS)
  ·subst e;rw[gM]at gS;simp at gS
  ·subst e;rw[gW]at gS;simp[ag]at gS
def IV(call:ab):Prop:=∀h L c p hs,eU h L c p hs->∃v h',call 18 [.ptr L 0] h=some (v,h')/\(v=.agg (cb p)/\ae h h')
theorem agH{h:H}{L:Nat}{c:aj}{p:kG}{hs:List Int}(hL:eU h L c p hs):WF P call c18 [.ptr L 0] h fun v h'=>v=.agg (cb p)/\ae h h':=by
 obtain⟨cv,gv,hv,tv,val,g,r1,r2,r3,r4,o1,o2,o3⟩:=hL.ex;exact w18 P hL.lt g (by simp[go_sem,au,cb])
def IW(call:ab):Prop:=∀h L c p hs,eU h L c p hs->call 124 [.ptr L 0] h=some (.int .i64 (hs.length:Int),h)
def IX(h:H)(M L:Nat)(c:aj)(p:kG)(R O:Nat):Prop:=∃gv,h.t.get R=some (ag [.ptr M 0,.ptr L 0,.int .i64 p.po,.int .i64 p.li,.map O,gv] 230)/\h.t.get O=some (.map [] 0)/\R<h.next/\O<h.next/\aY gv=true/\∃G,gv=.sl G 0 (aH c).length 1 (some (aH c).length)/\h.t.get G=some (.row (aa 0 (List.replicate (aH c).length (.int .i64 0)) T.e) (aH c).length 3)/\O<G/\G<R
theorem w58(YT:IV call)(Ig:iK call)(h67:IW call){h:H}{M W L:Nat}{ws:List Int}{c:aj}{p:kG}(hm:dK h M W ws)(hM:M<h.next)(hW:W<h.next)(hL:eU h L c p (aH c))(hw:p.wo=(ws.length:Int))(CG:0<ws.length)(AI:p.wo<=5000)(hn:(aH c).length<=60):
 WF P call c58 [.ptr M 0,.ptr L 0] h fun v h'=>(∃R O,v=.aE [.ptr R 0,.int .i64 0]/\IX h' M L c p R O/\h.next<=R/\h.next<=O)/\ae h h':=by
 simp only[go_sem,seval];refine af (YT h L c p _ hL) fun v1 h1 p1=>?_
 obtain⟨rfl,bC⟩:=p1;have cF:=bC.trans (ae.new h1 (.row (aa 0 (cb p) T.e) 10 60));have hm2:=hm.step hM hW cF;have hL2:=hL.step cF;obtain⟨x,hx⟩:=Ig.yes hm2 (a:=p.wo-1) (by omega) (by omega);have hy:=Ig.no hm2 (a:=p.wo) (by omega);have f1:fw .i64 (p.wo-1)=p.wo-1:=aS (by omega) (by omega);have k67:=h67 _ L c p _ (hL2.step (ae.new _ (.map [] 0)));have m1:8*(aH c).length<=281474976710656:=by omega
 have m2:(aH c).length<=281474976710656:=by omega
 simp only[cb]at hx hy k67;have n1:¬h1.next=h1.next+1:=by omega
 simp only[go_sem,seval,cb,f1,hx,hy,k67,fM,dZ,Nat.mul_one,Nat.le_refl,m1,m2,decide_true,Bool.and_self,cond_true,n1];have nx:=bC.next;refine⟨⟨_,h1.next+1,rfl,⟨.sl (h1.next+2) 0 (aH c).length 1 (some (aH c).length),by simp[go_sem],by simp[go_sem],by show h1.next+3<h1.next+4;omega,by show h1.next+1<h1.next+4;omega,rfl,h1.next+2,rfl,by simp[go_sem],by omega,by omega⟩,by omega,by omega⟩,by show h.next<=h1.next+4;omega,fun b hb=>?_⟩;have e1:¬b=h1.next:=by omega
 have e2:¬b=h1.next+1:=by omega
 have e3:¬b=h1.next+2:=by omega
 have e4:¬b=h1.next+3:=by omega
 simp only[go_sem,seval,e1,e2,e3,e4];exact bC.old b hb
def F17(call:ab):Prop:=∀h M W ws,dK h M W ws->M<h.next->W<h.next->ws.length<=65536->∃v h',call 17 [.ptr M 0] h=some (v,h')/\Iz ws h v h'
theorem w59(YT:IV call)(h68:F17 call){h:H}{M W L:Nat}{ws:List Int}{c:aj}{p:kG}{hs:List Int}(hm:dK h M W ws)(hM:M<h.next)(hW:W<h.next)(hL:eU h L c p hs)(hw:p.wo=(ws.length:Int))(AI:p.wo<=5000):
 WF P call c59 [.ptr M 0,.ptr L 0] h fun v h'=>(∃R,v=.aE [.ptr R 0,.int .i64 0]/\h'.t.get R=some (ag [.ptr M 0,.ptr L 0] 123)/\h.next<=R/\R<h'.next)/\ae h h':=by
 simp only[go_sem,seval];refine af (h68 h M W ws hm hM hW (by omega)) fun v1 h1 p1=>?_
 obtain⟨bC,O,rfl,_⟩:=p1;simp only[go_sem,seval];refine af (YT h1 L c p hs (hL.step bC)) fun v2 h2 p2=>?_
 obtain⟨rfl,cF⟩:=p2;simp only[go_sem,seval,cb,hw,bo];exact⟨⟨_,rfl,by simp only[go_sem,seval];rfl,Nat.le_trans bC.next cF.next,Nat.lt_succ_self _⟩,(bC.trans cF).trans (ae.new h2 _)⟩
structure YU(h:H)(B:Nat)(c:aj)(p:kG)(M W R:Nat):Prop where
 ex:∃L P T V G,h.t.get B=some (ag [.ptr L 0,.ptr M 0,.ptr P 0,.ptr T 0,.ptr R 0,.ax,.ax,.map V,.map G] 104)/\eU h L c p (aH c)
 pr:∃n:Nat,c.aq=(n:Int)/\yH h R n
 lt:B<h.next
def StA(h0:Nat)(h:H)(B:Nat)(c:aj)(M W R:Nat):Prop:=∃L P T V G O,∃hL:H,∃lo n:Nat,(eU hL L c (aA c) (aH c)/\ae hL h/\h0<=L/\hL.next<=V/\hL.next<=G/\hL.next<=B/\hL.next<=M/\hL.next<=W/\hL.next<=P/\hL.next<=O/\hL.next<=lo)/\(c.aq=(n:Int)/\rD lo h M (aA c).en R n c/\V<lo/\G<lo/\B<lo/\M<lo/\W<lo/\P<lo/\O<lo/\lo<=h.next)/\h.t.get B=some (ag [.ptr L 0,.ptr M 0,.ptr P 0,.ptr T 0,.ptr R 0,.ax,.ax,.map V,.map G] 104)/\h.t.get V=some (.map [] 0)/\h.t.get G=some (.map [] 0)/\IX h M L c (aA c) P O/\eU h L c (aA c) (aH c)/\V<h.next/\G<h.next/\V≠G/\O≠V/\O≠G/\h.t.get T=some (ag [.ptr M 0,.ptr L 0] 123)/\hL.next<=T/\T<lo/\P≠M/\T≠B/\T≠P/\B≠M
structure IY(c:aj)(h:H)(v:AV)(h':H):Prop where
 st:ae h h'
 ex:∃B p M W R ws,v=.aE [.ptr B 0,.int .i64 0]/\p.ow=0/\(∃w:Nat,p.wo=(w:Int)/\Zero w c.aq ws/\rC c w ws)/\c.aq<p.wo/\ws.length<=5000/\yc h' M W ws .ax/\M<h'.next/\W<h'.next/\h.next<=M/\h.next<=W/\(∀h2,CE M W h' h2->YU h2 B c p M W R)/\p=aA c/\StA h.next h' B c M W R
def F55(call:ab):Prop:=∀h c v,cm none 1 h v (uL c.aI)->(∀a,own v=some a->a<h.next)->fU c->(aH c).length<=60->∃v' h',call 55 [.agg (au c v)] h=some (v',h')/\Qm c h v' h'
def F57(call:ab):Prop:=∀h L c p (W:Nat),eU h L c p (aH c)->ye c p->0<=c.aq->(aH c).length<=60->p.wo=(W:Int)->0<W->∃v h',call 57 [.ptr L 0] h=some (v,h')/\Fm W c.aq (rC c W) h v h'
def F56(call:ab):Prop:=∀h v (ws:List Int) e,Own 1 e h v ws.length (ws.map (AV.int .u64))->0<ws.length->ws.length<=65536->∃v' h',call 56 [v] h=some (v',h')/\Qh ws h v' h'
def F58(call:ab):Prop:=∀h M W L (ws:List Int) c p,dK h M W ws->M<h.next->W<h.next->eU h L c p (aH c)->p.wo=(ws.length:Int)->0<ws.length->p.wo<=5000->(aH c).length<=60->∃v h',call 58 [.ptr M 0,.ptr L 0] h=some (v,h')/\((∃R O,v=.aE [.ptr R 0,.int .i64 0]/\IX h' M L c p R O/\h.next<=R/\h.next<=O)/\ae h h')
def F59(call:ab):Prop:=∀h M W L (ws:List Int) c p,dK h M W ws->M<h.next->W<h.next->eU h L c p (aH c)->p.wo=(ws.length:Int)->p.wo<=5000->∃v h',call 59 [.ptr M 0,.ptr L 0] h=some (v,h')/\(∃R,v=.aE [.ptr R 0,.int .i64 0]/\h'.t.get R=some (ag [.ptr M 0,.ptr L 0] 123)/\h.next<=R/\R<h'.next)/\ae h h'
def F60(call:ab):Prop:=∀h M W (ws:List Int) c base (n:Nat),dK h M W ws->M<h.next->W<h.next->mQ c->0<=base->base+bD c<=(ws.length:Int)->base<=60000->c.aq=(n:Int)->∃v h',call 60 [.ptr M 0,.int .u8 c.az,.int .i64 base,.int .i64 c.aq,.int .i64 c.buckets] h=some (v,h')/\Qs M base c n h v h'
theorem w23(h20:F55 call)(h22:F57 call)(h21:F56 call)(h23:F58 call)(h24:F59 call)(YT:IV call)(h25:F60 call)
 {h:H} {c:aj} {v:AV} (hv:cm none 1 h v (uL c.aI)) (dE:∀a,own v=some a->a<h.next) (hc:fU c) (hn:(aH c).length<=60):WF P call IC [.agg (au c v)] h (IY c h):=by
 have Ss:=hc.Yq;have mL:=Ss.1;have ov:=hv.one;have cr:=ae.new h (.row (aa 0 (au c v) T.e) 16 27);simp only[go_sem,seval,ov,au];refine af (h20 _ c v (hv.aF fun b hb=>cr.old b (dE b hb)) (fun a ha=>Nat.lt_succ_of_lt (dE a ha)) hc hn) fun v1 h1 p1=>?_
 obtain⟨⟨L,p,rfl,hL0,hp,hL⟩,bC⟩:=p1;have g1:=bC.old h.next (Nat.lt_succ_self _);simp only[go_sem,seval,au]at g1;have fC:=cr.trans bC;have eW:h.next<h1.next:=bC.next;obtain⟨w,hw⟩:∃w:Nat,p.wo=(w:Int):=⟨p.wo.toNat,by have:=hp.po;have:=Ss.1;omega⟩;have hp5:=hp.wo;have CG:0<w:=by have:=hp.po;have:=Ss.1;omega
 obtain⟨B,hB⟩:∃B,B=h1.next+2:=⟨_,rfl⟩;simp only[go_sem,seval,g1,←hB];obtain⟨b1,iD⟩:∃x,x=h1.next:=⟨_,rfl⟩;have cF:ae h1 ⟨B+1,((h1.t.set h1.next (.map [] 0)).set (h1.next+1) (.map [] 0)).set B (.row (aa 0 [.ptr L 0,.aJ,.aJ,.aJ,.aJ,.ax,.ax,.map h1.next,.map (h1.next+1)] T.e) 9 104)⟩:=⟨by show h1.next<=B+1;omega,fun b hb=>by
  have e1:¬b=h1.next:=by omega
  have e2:¬b=h1.next+1:=by omega
  have e3:¬b=B:=by omega
  simp only[go_sem,seval,e1,e2,e3]⟩
 refine af (h22 _ L c p w (hL.step cF) hp (by omega) hn hw CG) fun v3 h3 p3=>?_
 obtain⟨⟨ws,hws,hz,Xl⟩,agX,fW⟩:=p3;have YV:=hz.len;simp only[go_sem,seval];refine af (h21 h3 v3 ws 50 hws (by omega) (by omega)) fun v4 h4 p4=>?_
 obtain⟨rfl,Qo,M4,m4⟩:=p4;have yG:ae h3 h4:=⟨by omega,M4⟩;obtain⟨M,hM⟩:∃x,x=h3.next+1:=⟨_,rfl⟩;obtain⟨W,hW⟩:∃x,x=h3.next:=⟨_,rfl⟩;rw[←hM,←hW]at m4;simp only[←hM];have Mj:B+1<=h3.next:=fW.next;have vX:=fW.trans yG;have AE:=vX.old B (by show B<B+1;omega);have YW:=vX.old h.next (by show h.next<B+1;omega);have c1:¬h.next=h1.next:=by omega
 have c2:¬h.next=h1.next+1:=by omega
 have mE:¬h.next=B:=by omega
 have BM:¬B=M:=by omega
 have BW:¬B=W:=by omega
 have MB:¬M=B:=by omega
 have WB:¬W=B:=by omega
 simp only[go_sem,seval]at AE;simp only[go_sem,seval,c1,c2,mE,g1]at YW;simp only[go_sem,seval,AE];have stB:∀x,∀b,b<h4.next->b≠B->(h4.t.set B x).get b=h4.t.get b:=fun x b hb hn=>by simp only[go_sem,seval,hn]
 have agY:∀x,dK ⟨h4.next,h4.t.set B x⟩ M W ws:=fun x=>by
  obtain⟨⟨lg,g,o⟩,w',ne⟩:=m4.mem;exact⟨⟨lg,by simp only[go_sem,seval,MB];exact g,o⟩,by simp only[go_sem,seval,WB];exact w',ne⟩
 have yh:ae h1 h4:=cF.trans vX;have agZ:∀x,ae h1 ⟨h4.next,h4.t.set B x⟩:=fun x=>⟨yh.next,fun b hb=>by
  have e3:¬b=B:=by omega
  simp only[go_sem,seval,e3];exact yh.old b hb⟩
 obtain⟨hM,hhM⟩:∃x:H,x=⟨h1.next+2,(h1.t.set h1.next (.map [] 0)).set (h1.next+1) (.map [] 0)⟩:=⟨_,rfl⟩;have hMn:hM.next=B:=by rw[hhM,hB]
 have ag0:∀b,b<B->h4.t.get b=hM.t.get b:=fun b hb=>by
  have k1:=vX.old b (by show b<B+1;omega);have e3:¬b=B:=by omega
  simp only[go_sem,seval,e3]at k1;rw[k1,hhM];simp only[go_sem,seval]
 have YX:p.wo=(ws.length:Int):=by omega
 refine af (h23 _ M W L ws c p (agY _) (by show M<h4.next;omega) (by show W<h4.next;omega) (hL.step (agZ _)) YX (by omega) hp5 hn) fun v6 h6 p6=>?_
 obtain⟨⟨Po,Oo,rfl,hPo,loP,loO⟩,AJ⟩:=p6;have nx6:h4.next<=h6.next:=AJ.next;have Su:=AJ.old B (by show B<h4.next;omega);simp only[go_sem,seval]at Su;simp only[go_sem,seval,Su];have IZ:∀x,ae h1 ⟨h6.next,h6.t.set B x⟩:=fun x=>⟨by have:=yh.next;show h1.next<=h6.next;omega,fun b hb=>by
  have e3:¬b=B:=by omega
  have:=AJ.old b (by have:=yh.next;show b<h4.next;omega);simp only[go_sem,seval,e3]at this;simp only[go_sem,seval,e3,this];exact yh.old b hb⟩
 have Sv:∀x,yc ⟨h6.next,h6.t.set B x⟩ M W ws .ax:=fun x=>by
  have k1:=AJ.old M (by show M<h4.next;omega);have k2:=AJ.old W (by show W<h4.next;omega);simp only[go_sem,seval,MB,WB]at k1 k2;exact⟨by simp only[go_sem,seval,MB,k1];exact m4.g,rfl,by simp only[go_sem,seval,WB,k2];exact m4.w,m4.ne⟩
 refine af (h24 _ M W L ws c p (Sv _).mem (by show M<h6.next;omega) (by show W<h6.next;omega) (hL.step (IZ _)) YX hp5) fun v7 h7 p7=>?_
 obtain⟨⟨To,rfl,Xm,YY,YZ⟩,D5⟩:=p7;have ag2:h6.next<=To:=YY;have nx7:h6.next<=h7.next:=D5.next;have Qu:=D5.old B (by show B<h6.next;omega);simp only[go_sem,seval]at Qu;have Qv:h7.t.get h.next=some (.row (aa 0 [.int .i64 c.threads,.int .i64 c.aq,.int .u8 c.az,.int .i64 c.buckets,.int .u8 c.kind,.int .i64 c.n,v,.int .i64 c.t0,.int .i64 c.t1,.int .i64 c.t2,.int .i64 c.t3,.int .i64 c.t4,.int .i64 c.t5,.int .i64 c.bY,.int .i64 c.tries,.int .i64 c.batch] T.e) 16 27):=by
  have k1:=D5.old h.next (by show h.next<h6.next;omega);have k2:=AJ.old h.next (by show h.next<h4.next;omega);simp only[go_sem,seval,mE]at k1 k2;rw[k1,k2,YW]
 have I0:∀x,ae h1 ⟨h7.next,h7.t.set B x⟩:=fun x=>⟨by have:=yh.next;show h1.next<=h7.next;omega,fun b hb=>by
  have e3:¬b=B:=by omega
  have k1:=D5.old b (by have:=yh.next;show b<h6.next;omega);have k2:=(IZ (.dead)).old b hb;simp only[go_sem,seval,e3]at k1 k2;simp only[go_sem,seval,e3,k1,k2]⟩
 have Y0:∀x,yc ⟨h7.next,h7.t.set B x⟩ M W ws .ax:=fun x=>by
  have k1:=D5.old M (by show M<h6.next;omega);have k2:=D5.old W (by show W<h6.next;omega);have k3:=(Sv .dead).g;have k4:=(Sv .dead).w;simp only[go_sem,seval,MB,WB]at k1 k2 k3 k4;exact⟨by simp[go_sem,MB,k1,k3],rfl,by simp[go_sem,WB,k2,k4],m4.ne⟩
 simp only[go_sem,seval,Qu,Qv,mE];refine af (YT _ L c p _ (hL.step (I0 _))) fun v8 h8 p8=>?_
 obtain⟨rfl,Ej⟩:=p8;have nx8:h7.next<=h8.next:=Ej.next;have Qw:=Ej.old B (by show B<h7.next;omega);have gC8:=Ej.old h.next (by show h.next<h7.next;omega);simp only[go_sem,seval]at Qw;simp only[go_sem,seval,mE,Qv]at gC8;have Sw:yc h8 M W ws .ax:=by
  have k1:=Ej.old M (by show M<h7.next;omega);have k2:=Ej.old W (by show W<h7.next;omega);have k3:=(Y0 .dead).g;have k4:=(Y0 .dead).w;simp only[go_sem,seval,MB,WB]at k1 k2 k3 k4;exact⟨by rw[k1,k3],rfl,by rw[k2,k4],m4.ne⟩
 have Sx:ae h1 h8:=(I0 _).trans Ej;simp only[go_sem,seval,Qw,gC8,mE,cb,Qu,Qv,bo];have hen:=hp.en;have ag4:=hp.Yq;have hE:=tR hc;obtain⟨n,Fo⟩:∃n:Nat,c.aq=(n:Int):=⟨c.aq.toNat,by omega⟩;refine⟨nx8,af (h25 h8 M W ws c p.en n Sw.mem (by omega) (by omega) Ss (by omega) (by omega) (by omega) Fo) fun v9 h9 p9=>?_⟩;obtain⟨yI,R,rfl,hR,hX⟩:=p9;have NA:h8.next<=h9.next:=yI.next;have NC:=yI.old B (by omega);have Y1:=yI.old h.next (by omega);rw[Qw]at NC;rw[gC8]at Y1;simp only[go_sem,seval,NC,Y1,Qw,gC8,Qu,Qv,mE,NA];have Y2:∀x,yc ⟨h9.next,h9.t.set B x⟩ M W ws .ax:=fun x=>⟨by simp only[go_sem,seval,MB];exact(yI.old M (by omega)).trans Sw.g,rfl,by simp only[go_sem,seval,WB];exact(yI.old W (by omega)).trans Sw.w,m4.ne⟩
 have vY:∀x,ae h1 ⟨h9.next,h9.t.set B x⟩:=fun x=>⟨by have:=Sx.next;show h1.next<=h9.next;omega,fun b hb=>by
  have e3:¬b=B:=by omega
  simp only[go_sem,seval,e3];exact(yI.old b (by have:=Sx.next;omega)).trans (Sx.old b hb)⟩
 have Y3:∀x,yH ⟨h9.next,h9.t.set B (.row x 9 104)⟩ R n:=fun x=>by
  have k:∀{b cells len e},h9.t.get b=some (.row cells len e)->e≠104->(h9.t.set B (.row x 9 104)).get b=some (.row cells len e):=fun{b cells len e} g n1=>by
   by_cases e3:b=B
   ·subst e3;rw[NC]at g;simp at g;exact absurd g.2.2.symm n1
   ·simp only[go_sem,seval,e3];exact g
  cases hR with
  |full G N B' M' base kind gR gG gN lR lG lN=>exact .full G N B' M' base kind (k gR (by decide)) (k gG (by decide)) (k gN (by decide)) lR lG lN
  |each G N M' fv kind gR gG gN lR lG lN=>exact .each G N M' fv kind (k gR (by decide)) (k gG (by decide)) (k gN (by decide)) lR lG lN
  |gate G S M' base nb kind gR gG gS lR lG lS=>
   refine .gate G S M' base nb kind (k gR (by decide)) (k gG (by decide)) ?_ lR lG lS
   by_cases e3:S=B
   ·subst e3;rw[NC]at gS;simp at gS
   ·simp only[go_sem,seval,e3];exact gS
 refine⟨fC.trans (vY _),B,p,M,W,R,ws,rfl,hp.ow,⟨w,hw,hz,Xl⟩,by have:=hp.po;omega,by omega,Y2 _,by show M<h9.next;omega,by show W<h9.next;omega,by omega,by omega,fun h2 sx=>?_,hp.eq,?_⟩
 rotate_left
 ·have Fq:∀b o,h6.t.get b=some o->b<h6.next->b≠B->(h9.t.set B (AO.row (aa 0 [.ptr L 0,.ptr M 0,.ptr Po 0,.ptr To 0,.ptr R 0,.ax,.ax,.map h1.next,.map (h1.next+1)] T.e) 9 104)).get b=some o:=fun b o g lb nb=>by
   have k1:=D5.old b (by show b<h6.next;omega);have k2:=Ej.old b (by show b<h7.next;omega);have k3:=yI.old b (by omega);simp only[go_sem,seval,nb]at k1 k2;simp only[go_sem,seval,nb,k3,k2,k1,g]
  have Qx:∀b o,hM.t.get b=some o->b<B->(h9.t.set B (AO.row (aa 0 [.ptr L 0,.ptr M 0,.ptr Po 0,.ptr To 0,.ptr R 0,.ax,.ax,.map h1.next,.map (h1.next+1)] T.e) 9 104)).get b=some o:=fun b o g lb=>by
   have k1:=AJ.old b (by show b<h4.next;omega);have e3:¬b=B:=by omega
   simp only[go_sem,seval,e3]at k1;exact Fq b o (k1.trans ((ag0 b lb).trans g)) (by omega) e3
  obtain⟨gv,gP,gO,lP,lO,og,Gg,eG,gG,oG1,oG2⟩:=hPo;have nPB:Po≠B:=fun e=>by subst e;rw[Su]at gP;simp[ag]at gP
  have nOB:Oo≠B:=fun e=>by subst e;rw[Su]at gO;cases gO
  have auV:h6.next<=h9.next:=by omega
  rw[hp.eq]at gP hL;have auW:B+1<=h4.next:=by omega
  have lo4:h4.next<=Oo:=loO;rw[hp.eq]at hX;have Y4:ae h1 ⟨h9.next,h9.t.set B (AO.row (aa 0 [.ptr L 0,.ptr M 0,.ptr Po 0,.ptr To 0,.ptr R 0,.ax,.ax,.map h1.next,.map (h1.next+1)] T.e) 9 104)⟩:=vY _;have hX9:=hX.aF (h':=⟨h9.next,h9.t.set B (AO.row (aa 0 [.ptr L 0,.ptr M 0,.ptr Po 0,.ptr To 0,.ptr R 0,.ax,.ax,.map h1.next,.map (h1.next+1)] T.e) 9 104)⟩) (Nat.le_refl _) fun b lb _=>by
   have q:¬b=B:=by omega
   simp only[go_sem,seval,q]
  have lP4:h4.next<=Po:=loP;refine⟨L,Po,To,h1.next,h1.next+1,Oo,h1,h8.next,n,⟨hL,Y4,by show h.next<=L;have:h.next+1<=L:=hL0;omega,Nat.le_refl _,by omega,by omega,by omega,by omega,by omega,by omega,by omega⟩,⟨Fo,hX9,by omega,by omega,by omega,by omega,by omega,by omega,by omega,NA⟩,by simp[go_sem],Qx _ _ (by rw[hhM];simp only[go_sem,seval]) (by omega),Qx _ _ (by rw[hhM];simp only[go_sem,seval]) (by omega),⟨gv,Fq _ _ gP lP nPB,Fq _ _ gO lO nOB,by show Po<h9.next;omega,by show Oo<h9.next;omega,og,Gg,eG,Fq _ _ gG (by omega) (by omega),oG1,oG2⟩,hL.step (vY _),by show h1.next<h9.next;omega,by show h1.next+1<h9.next;omega,by omega,by omega,by omega,?_,by omega,by omega,by omega,by omega,by omega,by omega⟩;have k1:=Ej.old To YZ;have k2:=yI.old To (by omega);have nTB:¬To=B:=by omega
  simp only[go_sem,seval,nTB]at k1;simp only[go_sem,seval,nTB,k2,k1];exact Xm
 have Y5:=sx.old B (by show B<h9.next;omega) BM BW;simp only[go_sem,seval]at Y5;exact⟨⟨L,Po,To,h1.next,h1.next+1,Y5,hL.step ((vY _).Qt sx (by omega) (by omega))⟩,⟨n,Fo,(Y3 _).off (Y2 _) sx⟩,Nat.lt_of_lt_of_le (by show B<h9.next;omega) sx.next⟩
end
end Go.Proofs.YtgkjlklfjbljeaaGreat.CQ
namespace Go.Proofs.YtgkjlklfjbljeaaGreat.CQ
open Go.Proofs.YtgkjlklfjbljeaaGreat.Eo
noncomputable section
@[go_sem]def c53:CF:=⟨1,(Sq [z 1 24 0,b 2 0,b 3 0] (Sq [S 5 3 1,q 6 116 5,a 4 6] (Qq (Sq [a 7 4,A 8 41 7 0] (Kq 8 [a 9 4,b 2 0,a 3 9] .skip)) (Qq (Sq [d 10 0 1,i 11 10] (.block 0 (Sq [L 13 5 11 2,a 12 13] (Kq 12 [d 14 1 1,i 15 14,a 2 15,b 3 0] (Sq [L 17 5 11 3,a 16 17] (Kq 16 [d 18 2 1,i 19 18,N 20 19,C 21 3 20 1,a 2 21,b 3 0] .skip)))))) (Rq [b 2 1,b 3 0]))))),[.tmp 2,.tmp 3]⟩
def uZ:CC:=(Qq (Sq [a 18 12,a 19 1,qc 20 3 18 19] (Cq 20 .skip (.exit 0))) (Qq (.block 1 (.cn ⟨[([g 0 0,g 1 0,n 2 24 1,m 3 25 2 27,k 4 26 3,g 5 2,g 6 3,g 7 12,g 8 4,⟨9,[(30,some 7),(31,some 8)],none,.p (.bin .quo 3 false false (.t 30) (.t 31))⟩,qB 10 29 6 32 9 3,g 11 12,g 12 4,⟨13,[(34,some 11),(35,some 12)],none,.p (.bin .rem 3 false false (.t 34) (.t 35))⟩,⟨14,[(28,some 5),(33,some 10),(36,some 13)],none,.p (.build [.int .u8 0,.int .i64 0,.int .i64 0] [(0,1,.t 28),(1,1,.t 33),(2,1,.t 36)])⟩,⟨15,[(37,some 14)],none,.n (.fl 296 3 1 [.int .u8 0,.int .i64 0,.int .i64 0] [(0,3,.t 37)])⟩],some (qJ 16 27 4 38 15 296 3 24)),([n 17 23 0,m 18 40 17 27],some (V 19 41 18 39 16 1)),([],none)],[(0,23),(1,24),(2,25),(3,26),(4,27),(5,28),(6,29),(7,30),(8,31),(9,32),(10,33),(11,34),(12,35),(13,36),(14,37),(15,38),(16,39),(17,40),(18,41)],[(⟨4,[(26,(some 3))],none,.r (.ld none (.t 26))⟩,[0])]⟩)) (Oq [a 21 12,C 22 3 21 1,a 12 22])))
@[go_sem]def Y6:CF:=⟨5,(Sq [b 10 0] (Sq [a 13 0,j 14 13,d 15 27 14,i 16 15,N 17 16,a 11 17] (Qq (Sq [b 12 0] (.block 0 (.loop uZ))) (Rq [a 42 11,a 10 42])))),[.tmp 10]⟩
def u6:CC:=(Qq (Sq [a 34 7,a 35 6,ql 36 3 35 1,d 37 7 1,qA 38 6 1 37 36,i 39 38,qc 40 3 34 39] (Cq 40 .skip (.exit 2))) (Qq (.block 3 (Oq [a 43 5,a 44 5,j 45 44,d 46 26 45,i 47 46,a 48 6,qM 49 3 1 1 0 0 1 48,qo 50 3 1 8 47 49,j 51 43,d 52 26 51,s 1 52 50])) (Oq [a 41 7,C 42 3 41 1,a 7 42])))
def u9:CC:=(Qq (Sq [a 30 6,ju 31 3 30 6] (Cq 31 .skip (.exit 0))) (Qq (.block 1 (Sq [b 7 0] (.block 2 (.loop u6)))) (Oq [a 32 6,C 33 3 32 1,a 6 33])))
def vb:CC:=(Qq (Sq [a 146 11,a 147 5,j 148 147,d 149 26 148,i 150 149,N 151 150,zs 152 3 146 151] (Cq 152 .skip (.exit 4))) (Qq (.block 5 (.cn ⟨[([g 0 5,g 1 5,n 2 156 1,m 3 157 2 26,k 4 158 3,g 5 11,qI 6 160 5 3 1,Y 7 159 4 161 6 1,k 8 162 7,q0 9 163 8 3 5,g 10 11,g 11 5,n 12 166 11,m 13 167 12 26,k 14 168 13,g 15 11,qI 16 170 15 3 1,Y 17 169 14 171 16 1,k 18 172 17,q0 19 173 18 3 5],some ⟨20,[(155,some 0),(164,some 9),(165,some 10),(174,some 19)],none,.cv (.c (.fn (.func 131) [] [])) [.t 155,.t 164,.c (.int .u8 9),.t 165,.t 174]⟩),([],none)],[(0,155),(1,156),(2,157),(3,158),(4,159),(5,160),(6,161),(7,162),(8,163),(9,164),(10,165),(11,166),(12,167),(13,168),(14,169),(15,170),(16,171),(17,172),(18,173),(19,174),(20,175)],[]⟩)) (Oq [a 153 11,C 154 3 153 1,a 11 154])))
@[go_sem]def c62:CF:=⟨1,(Sq [z 1 27 0,p 2,b 3 0] (Qq (Sq [S 12 16 1,q 13 130 12,a 4 13] (Sq [a 14 4,A 15 41 14 0] (Kq 15 [a 16 4,p 2,a 3 16] .skip))) (Sq [S 17 16 1,⟨some 18,none,.p (.build [aN,aN,ya,aN,ya,aN,.ax,aN,aN,aN,aN,aN,aN,aN,aN,aN,aN,aN,aN,aN,aN,aN,aN,aN,aN,aN,.ax,.ax] [(0,16,.t 17)])⟩,z 19 87 18,a 5 19] (Sq [a 20 5,zL 21 50 1 0,d 22 4 1,d 23 2 22,i 24 23,qo 25 50 1 8 21 24,j 26 20,d 27 0 26,d 28 4 27,d 29 2 28,s 1 29 25] (Qq (Sq [b 6 1] (.block 0 (.loop u9))) (Sq [d 53 1 1,i 54 53,a 8 54] (Qq (Sq [d 55 2 1,i 56 55,L 57 5 56 2] (Cq 57 (Oq [d 58 1 1,i 59 58,qs 60 3 2 59,a 8 60]) .skip)) (Qq (Sq [d 61 2 1,i 62 61,L 63 5 62 3] (Cq 63 (Oq [d 64 3 1,i 65 64,qs 66 3 4 65,a 8 66]) .skip)) (Sq [d 68 4 1,S 69 3 68,q 70 53 69,a 67 70,o 71 67 0,o 72 67 1,a 9 71,a 10 72] (Sq [a 73 5,a 74 5,d 75 1 1,i 76 75,zh 77 131 74 76 1 0 1,j 78 73,d 79 16 78,d 80 0 79,s 1 80 77] (Sq [a 81 5,a 82 5,a 83 8,a 84 8,⟨some 85,none,.cv (.c (.fn (.func 131) [] [])) [.t 82,.t 83,.c (.int .u8 2),.c (.int .i64 0),.t 84]⟩,j 86 81,d 87 16 86,d 88 1 87,s 1 88 85] (Sq [a 89 5,a 90 5,jv 91 131 90 1 3 0 1,j 92 89,d 93 16 92,d 94 2 93,s 1 94 91] (Sq [a 95 5,a 96 5,d 97 13 1,i 98 97,qs 99 3 3 98,zh 100 131 96 99 4 0 3,j 101 95,d 102 16 101,d 103 3 102,s 1 103 100] (Sq [a 104 5,a 105 5,d 106 13 1,i 107 106,zh 108 131 105 107 5 0 1,j 109 104,d 110 16 109,d 111 4 110,s 1 111 108] (Sq [a 112 5,a 113 5,jv 114 131 113 6 6 0 1,j 115 112,d 116 16 115,d 117 5 116,s 1 117 114] (Sq [a 118 5,a 119 5,a 120 5,j 121 120,d 122 26 121,i 123 122,N 124 123,zh 125 131 119 124 7 1 1,j 126 118,d 127 16 126,d 128 6 127,s 1 128 125] (Sq [a 129 5,a 130 5,a 131 9,⟨some 132,none,.p (.bin .mul 3 false true (.t 131) (.c (.int .i64 7)))⟩,zh 133 131 130 132 8 0 7,j 134 129,d 135 16 134,d 136 7 135,s 1 136 133] (Sq [a 137 5,a 138 5,j 139 138,d 140 27 139,i 141 140,N 142 141,j 143 137,d 144 16 143,d 145 8 144,s 1 145 142] (Qq (Sq [b 11 1] (.block 4 (.loop vb))) (Sq [a 176 5,a 177 5,j 178 177,d 179 27 178,i 180 179,N 181 180,j 182 176,d 183 16 182,d 184 9 183,s 1 184 181] (Rq [a 185 5,a 2 185,b 3 0]))))))))))))))))))))),[.tmp 2,.tmp 3]⟩
def ND(call:ab):Prop:=∀h k n v (l:List Int),cm none 1 h v (uL l)->(∀a,own v=some a->a<h.next)->(∀x∈l,kB x)->∃v' h',call 116 [.agg [.int .u8 k,.int .i64 n,v]] h=some (v',h')/\dg (cJ k n l) h v' h'
theorem w53(P:Program){call:ab}(Qk:ND call){h:H}{k n:Int}{v:AV}{l:List Int}(hd:cJ k n l)(hv:cm none 1 h v (uL l))(dE:∀a,own v=some a->a<h.next)(fH:∀x∈l,kB x):
 WF P call c53 [.agg [.int .u8 k,.int .i64 n,v]] h fun v' h'=>v'=.aE [.int .i64 (db k n l),.int .i64 0]/\ae h h':=by
 have ov:=hv.one;have gr:=hv.bR;have hle:=hv.le;unfold uL at gr hle;rw[List.length_map]at gr hle;have f1:fw .i64 ((l.length:Int)+1)=(l.length:Int)+1:=aS (by omega) (by omega);have cr:=ae.new h (.row (aa 0 [.int .u8 k,.int .i64 n,v] T.e) 3 24);have xU:=hv.aF fun b hb=>cr.old b (dE b hb)
 simp only[go_sem,seval,ov];refine af (Qk _ k n v l xU (fun a ha=>Nat.lt_succ_of_lt (dE a ha)) fH) fun v1 h1 p1=>?_
 obtain⟨e,rfl,he,bC⟩:=p1;obtain rfl:=he.2 hd;have g1:=bC.old h.next (Nat.lt_succ_self _);simp only[go_sem,seval]at g1
 by_cases k2:k=2
 ·simp only[go_sem,seval,g1,k2,db];exact cr.trans bC
 by_cases k3:k=3
 ·simp only[go_sem,seval,g1,k2,k3,gr,f1,db];exact cr.trans bC
 simp only[go_sem,seval,g1,k2,k3,db];exact cr.trans bC
abbrev PL:=List (Int×Int×Int)
def I1(l:PL):List AV:=l.flatMap fun q=>[.int .u8 q.1,.int .i64 q.2.1,.int .i64 q.2.2]
def Ek(kd fi pe:Int)(i:Nat):Int×Int×Int:=(kd,fw .i64 (fi+fw .i64 (Int.tdiv (i:Int) pe)),Int.tmod (i:Int) pe)
def dD(kd fi pe:Int)(n:Nat):PL:=(List.range n).map (Ek kd fi pe)
theorem GV(kd fi pe:Int)(n:Nat):dD kd fi pe (n+1)=dD kd fi pe n++[Ek kd fi pe n]:=by
 unfold dD;rw[List.range_succ,List.map_append];rfl
theorem NF(l m:PL):I1 (l++m)=I1 l++I1 m:=List.flatMap_append
structure RL(g0:Nat->Option AO)(L:Nat)(c:aj)(cv:AV)(p:kG)(hs:List Int)(wl:Nat)(sP:PL)(h:H):Prop where
 old:∀b,b<L->h.t.get b=g0 b
 nx:L<h.next
 ex:∃hv wv,h.t.get L=some (ag (au c cv++(cb p++[hv,wv])) 87)/\Own 1 3 h hv hs.length (iL hs)/\Own 3 296 h wv wl (I1 sP)/\(∀a,own hv=some a->L<a/\own wv≠some a/\own cv≠some a)/\(∀a,own wv=some a->L<a/\own cv≠some a)
 Ml:∀b,own cv=some b->b<h.next/\b≠L/\h.t.get b=g0 b
section
variable {g0:Nat->Option AO} {L:Nat} {c:aj} {cv:AV} {p:kG} {hs:List Int} {wl:Nat} {sP:PL} {h h':H}
theorem RL.step(r:RL g0 L c cv p hs wl sP h)(s:ae h h'):RL g0 L c cv p hs wl sP h':=by
 obtain⟨hv,wv,g,oh,ow,mP,GW⟩:=r.ex;have:=r.nx;exact⟨fun b hb=>(s.old b (by omega)).trans (r.old b hb),Nat.lt_of_lt_of_le r.nx s.next,⟨hv,wv,(s.old _ r.nx).trans g,oh.aF s.next fun b hb=>s.old b (oh.lt hb),ow.aF s.next fun b hb=>s.old b (ow.lt hb),mP,GW⟩,fun b hb=>by
  obtain⟨a1,a2,a3⟩:=r.Ml b hb;exact⟨Nat.lt_of_lt_of_le a1 s.next,a2,(s.old b a1).trans a3⟩⟩
theorem RL.mG{hv wv:AV}(r:RL g0 L c cv p hs wl sP h)(oh:Own 1 3 h hv hs.length (iL hs))(ow:Own 3 296 h wv wl (I1 sP))(mP:∀a,own hv=some a->L<a/\own wv≠some a/\own cv≠some a)(GW:∀a,own wv=some a->L<a/\own cv≠some a)(p':kG):RL g0 L c cv p' hs wl sP ⟨h.next,h.t.set L (ag (au c cv++(cb p'++[hv,wv])) 87)⟩:=by
 refine⟨fun b hb=>?_,r.nx,⟨hv,wv,by simp[go_sem],oh.aF (Nat.le_refl _) fun b hb=>?_,ow.aF (Nat.le_refl _) fun b hb=>?_,mP,GW⟩,fun b hb=>?_⟩
 ·have e:¬b=L:=by omega
  simp only[go_sem,seval,e];exact r.old b hb
 ·have e:¬b=L:=by have:=(mP b hb).1;omega
  simp only[go_sem,seval,e]
 ·have e:¬b=L:=by have:=(GW b hb).1;omega
  simp only[go_sem,seval,e]
 ·obtain⟨a1,a2,a3⟩:=r.Ml b hb;refine⟨a1,a2,?_⟩;simp only[go_sem,seval,a2];exact a3
def I74(g0:Nat->Option AO)(L:Nat)(c:aj)(cv:AV)(p:kG)(hs:List Int)(wl:Nat)(sP:PL)(kd fi pe:Int)(n:Nat)(yJ:Nat)(k:Nat)(tm:T AV)(h:H):Prop:=
 tm.get 0=some (.ptr L 0)/\tm.get 1=some (.int .i64 (n:Int))/\tm.get 2=some (.int .u8 kd)/\tm.get 3=some (.int .i64 fi)/\tm.get 4=some (.int .i64 pe)/\tm.get 11=some (.int .i64 (wl:Int))/\yJ<=h.next/\∃i:Nat,i+k=n/\tm.get 12=some (.int .i64 (i:Int))/\RL g0 L c cv p hs (wl+i) (sP++dD kd fi pe i) h
theorem Sy(P:Program){call:ab}{kd fi pe:Int}{n yJ:Nat}(ov:aY cv=true)(hn:wl+n<=10000)(hpe:1<=pe)(k:Nat)(tm:T AV)(h:H)(hI:I74 g0 L c cv p hs wl sP kd fi pe n yJ k tm h):
 WC P call uZ (bM 0 (fun tm h=>∃j,j<k/\I74 g0 L c cv p hs wl sP kd fi pe n yJ j tm h) (fun tm h=>tm.get 11=some (.int .i64 (wl:Int))/\yJ<=h.next/\RL g0 L c cv p hs (wl+n) (sP++dD kd fi pe n) h) (fun _ _=>False)) tm h:=by
 obtain⟨t0,t1,t2,t3,t4,t11,I2,i,Cu,t12,r⟩:=hI;cases k with
 |zero=>
  have e1:¬(i:Int)<(n:Int):=by omega
  obtain rfl:i=n:=by omega
  simp only[go_sem,seval,uZ,t1,t12,e1];exact⟨by simp[go_sem,t11],I2,r⟩
 |succ k=>
  have e1:(i:Int)<(n:Int):=by omega
  have f1:fw .i64 ((i:Int)+1)=(i:Int)+1:=aS (by omega) (by omega);have e3:((i+1:Nat):Int)=(i:Int)+1:=rfl;have pz:¬pe=0:=by omega
  obtain⟨old,nx,⟨hv,wv,g,oh,ow,mP,GW⟩,Ml⟩:=r;have ohv:=oh.one;have owv:=ow.one;have l1:¬L=h.next:=by omega
  obtain⟨src,iW⟩:∃src:List AV,src=[.int .u8 kd,.int .i64 (fw .i64 (fi+fw .i64 (Int.tdiv (i:Int) pe))),.int .i64 (Int.tmod (i:Int) pe)]:=⟨_,rfl⟩;have mL:src.length=3:=by rw[iW];rfl
  have cr:=ae.new h (.row (aa 0 src T.e) 3 296);have Qy:Own 3 296 ⟨h.next+1,h.t.set h.next (.row (aa 0 src T.e) 3 296)⟩ wv _ _:=ow.aF cr.next fun b hb=>cr.old b (ow.lt hb)
  simp only[go_sem,seval,uZ,t0,t1,t2,t3,t4,t12,e1,g,au,cb,pz,l1];simp only[←iW];refine b8 (du Qy (by decide) (by decide) (by omega) (by omega)) ?_
  have gg:=fun b hb hh=>cT (h:=⟨h.next+1,h.t.set h.next (.row (aa 0 src T.e) 3 296)⟩) (e:=296) (v:=wv) (cs:=I1 (sP++dD kd fi pe i)++src) (b:=b) hb hh
  have noL:own wv≠some L:=fun hh=>by have:=(GW _ hh).1;omega
  have vT:=gg L (by show L<h.next+1;omega) noL;have yd:=eV Qy (src:=src) (n:=1) (by decide) mL;have sO:aY (mF ⟨h.next+1,h.t.set h.next (.row (aa 0 src T.e) 3 296)⟩ 3 (wl+(i+1)))=true:=rfl;simp only[go_sem,seval,l1,g,au,cb]at vT;simp only[go_sem,seval,vT,sO,iJ,f1,t0,t1,t2,t3,t4,t11,t12,l1,g,au,cb];refine⟨k,Nat.lt_succ_self k,by simp[go_sem,t0],by simp[go_sem,t1],by simp[go_sem,t2],by simp[go_sem,t3],by simp[go_sem,t4],by simp[go_sem,t11],by show yJ<=h.next+2;omega,i+1,by omega,by simp[go_sem,e3],?_⟩;have IF:own (mF ⟨h.next+1,h.t.set h.next (.row (aa 0 src T.e) 3 296)⟩ 3 (wl+i+1))=some (h.next+1):=rfl;have epl:I1 (sP++dD kd fi pe i)++src=I1 (sP++dD kd fi pe (i+1)):=by rw[GV,←List.append_assoc,NF (sP++dD kd fi pe i),iW];rfl
  simp only[epl]at gg yd⊢;refine⟨fun b hb=>?_,by show L<h.next+2;omega,⟨hv,mF ⟨h.next+1,h.t.set h.next (.row (aa 0 src T.e) 3 296)⟩ 3 (wl+i+1),by simp[go_sem,au,cb],?_,?_,?_,?_⟩,fun b hb=>?_⟩
  ·have n1:¬b=h.next:=by omega
   have n2:¬b=L:=by omega
   have g1:=gg b (by show b<h.next+1;omega) (fun hh=>by have:=(GW _ hh).1;omega);simp only[go_sem,seval,n1]at g1;simp only[go_sem,seval,n2,g1];exact old b hb
  ·refine oh.aF (by show h.next<=h.next+2;omega) fun b hb=>?_
   have df:=oh.lt hb;have n1:¬b=h.next:=by omega
   have n2:¬b=L:=by have:=(mP b hb).1;omega
   have g1:=gg b (by show b<h.next+1;omega) (mP b hb).2.1;simp only[go_sem,seval,n1]at g1;simp only[go_sem,seval,n2,g1]
  ·rw[←Nat.add_assoc];refine yd.aF (by show h.next+1+1<=h.next+2;omega) fun b hb=>?_
   rw[ez]at hb;obtain rfl:=Option.some.inj hb;have n2:¬h.next+1=L:=by omega
   simp only[go_sem,seval,n2]
  ·intro a ha;have df:=oh.lt ha;refine⟨(mP a ha).1,fun hh=>?_,(mP a ha).2.2⟩;rw[IF]at hh;have:=Option.some.inj hh;omega
  ·intro a ha;rw[IF]at ha;obtain rfl:=Option.some.inj ha;exact⟨by omega,fun hh=>by have:=(Ml _ hh).1;omega⟩
  ·obtain⟨a1,a2,a3⟩:=Ml b hb;refine⟨by show b<h.next+2;omega,a2,?_⟩;have n1:¬b=h.next:=by omega
   have g1:=gg b (by show b<h.next+1;omega) (fun hh=>(GW b hh).2 hb);simp only[go_sem,seval,n1]at g1;simp only[go_sem,seval,a2,g1];exact a3
theorem ag7(P:Program){call:ab}{kd fi pe:Int}{n:Nat}(ov:aY cv=true)(hn:wl+n<=10000)(hpe:1<=pe)(r:RL g0 L c cv p hs wl sP h):
 WF P call Y6 [.ptr L 0,.int .i64 (n:Int),.int .u8 kd,.int .i64 fi,.int .i64 pe] h fun v h'=>v=.int .i64 (wl:Int)/\RL g0 L c cv p hs (wl+n) (sP++dD kd fi pe n) h'/\h.next<=h'.next:=by
 obtain⟨hv,wv,g,oh,ow,mP,GW⟩:=r.ex;have YV:=ow.bR;simp only[go_sem,seval,g,au,cb,YV];refine aT (I74 g0 L c cv p hs wl sP kd fi pe n h.next) _ _ (fun k tm h' hI=>Sy P ov hn hpe k tm h' hI) (fun dC h2 hR=>?_) (fun _ _ hh=>hh.elim) n _ _
  ⟨by simp[go_sem],by simp[go_sem],by simp[go_sem],by simp[go_sem],by simp[go_sem],by simp[go_sem],Nat.le_refl _,0,by omega,by simp[go_sem],by rw[show dD kd fi pe 0=[]from rfl,List.append_nil];exact r⟩
 obtain⟨t11,nx,r2⟩:=hR;simp only[go_sem,seval,t11];exact⟨r2,nx⟩
end
def I12(g0:Nat->Option AO)(B L:Nat)(c:aj)(v cv:AV)(i:Nat)(fV:List Int)(n k:Nat)(tm:T AV)(h:H):Prop:=
 tm.get 1=some (.ptr B 0)/\tm.get 5=some (.ptr L 0)/\tm.get 6=some (.int .i64 ((i:Int)+1))/\B<L/\g0 B=some (ag (au c v) 27)/\∃j:Nat,j+k=n/\tm.get 7=some (.int .i64 (j:Int))/\RL g0 L c cv Fl (fV++List.replicate j ((i:Int)+1)) 0 [] h
theorem Sz(P:Program){call:ab}{g0:Nat->Option AO}{B L:Nat}{c:aj}{v cv:AV}{i:Nat}{fV:List Int}{n:Nat}(hi:i<6)(Y7:(oT c)[i]?=some (n:Int))(ov:aY cv=true)(hn:fV.length+n<=1000)(k:Nat)(tm:T AV)(h:H)(hI:I12 g0 B L c v cv i fV n k tm h):
 WC P call u6 (bM 2 (fun tm h=>∃j,j<k/\I12 g0 B L c v cv i fV n j tm h) (fun tm h=>tm.get 1=some (.ptr B 0)/\tm.get 5=some (.ptr L 0)/\tm.get 6=some (.int .i64 ((i:Int)+1))/\RL g0 L c cv Fl (fV++List.replicate n ((i:Int)+1)) 0 [] h) (fun _ _=>False)) tm h:=by
 obtain⟨t1,t5,t6,D0,gB,j,hjk,t7,r⟩:=hI;have AK:=(r.old B D0).trans gB;have fi1:fw .i64 ((i:Int)+1-1)=(i:Int):=by rw[show(i:Int)+1-1=(i:Int) by omega];exact aS (by omega) (by omega)
 have ei:(i:Int)<6:=by omega
 have iq:(au c v)[7+i]?=some (.int .i64 (n:Int)):=by
  match i,hi,Y7 with
  |0,_,h=>have:=Option.some.inj h;simp only[au];rw[←this];rfl
  |1,_,h=>have:=Option.some.inj h;simp only[au];rw[←this];rfl
  |2,_,h=>have:=Option.some.inj h;simp only[au];rw[←this];rfl
  |3,_,h=>have:=Option.some.inj h;simp only[au];rw[←this];rfl
  |4,_,h=>have:=Option.some.inj h;simp only[au];rw[←this];rfl
  |5,_,h=>have:=Option.some.inj h;simp only[au];rw[←this];rfl
 cases k with
 |zero=>
  have e1:¬(j:Int)<(n:Int):=by omega
  obtain rfl:j=n:=by omega
  simp only[go_sem,seval,u6,t1,t5,t6,t7,fi1,ei,AK,Nat.mul_one,iq,e1];exact r
 |succ k=>
  have e1:(j:Int)<(n:Int):=by omega
  have f2:fw .i64 ((j:Int)+1)=(j:Int)+1:=aS (by omega) (by omega);have e3:((j+1:Nat):Int)=(j:Int)+1:=rfl;obtain⟨old,nx,⟨hv,wv,g,oh,ow,mP,GW⟩,Ml⟩:=r;have ohv:=oh.one;have owv:=ow.one;have l1:¬L=h.next:=by omega
  have cr:=ae.new h (.row (aa 0 [.int .i64 ((i:Int)+1)] T.e) 1 3);have hlen:(fV++List.replicate j ((i:Int)+1)).length=fV.length+j:=by rw[List.length_append,List.length_replicate]
  generalize sS:fV++List.replicate j ((i:Int)+1)=hs at oh hlen g;have Mi:Own 1 3 ⟨h.next+1,h.t.set h.next (.row (aa 0 [.int .i64 ((i:Int)+1)] T.e) 1 3)⟩ hv _ _:=oh.aF cr.next fun b hb=>cr.old b (oh.lt hb)
  have gL0:h.t.get L=some (ag (au c cv++(cb Fl++[hv,wv])) 87):=g;simp only[au,cb,List.cons_append,List.nil_append]at g;simp only[go_sem,seval,u6,t1,t5,t6,t7,fi1,ei,AK,Nat.mul_one,iq,e1,g,l1];refine b8 (du Mi (by decide) (by decide) (by omega) (by omega)) ?_
  have gg:=fun b hb hh=>cT (h:=⟨h.next+1,h.t.set h.next (.row (aa 0 [.int .i64 ((i:Int)+1)] T.e) 1 3)⟩) (e:=3) (v:=hv) (cs:=iL hs++[.int .i64 ((i:Int)+1)]) (b:=b) hb hh
  have vT:=gg L (by show L<h.next+1;omega) (fun hh=>by have:=(mP _ hh).1;omega);have yd:=eV Mi (src:=[.int .i64 ((i:Int)+1)]) (n:=1) (by decide) rfl;have sO:=yd.one;simp only[go_sem,seval,l1,g]at vT;simp only[go_sem,seval,vT,sO,iJ,f2,t1,t5,t6,t7,l1,g];have ehs:fV++List.replicate (j+1) ((i:Int)+1)=hs++[(i:Int)+1]:=by rw[←sS,List.replicate_succ',List.append_assoc]
  refine⟨k,Nat.lt_succ_self k,by simp[go_sem,t1],by simp[go_sem,t5],by simp[go_sem,t6],D0,gB,j+1,by omega,by simp[go_sem,e3],?_⟩;rw[ehs];have IF:own (mF ⟨h.next+1,h.t.set h.next (.row (aa 0 [.int .i64 ((i:Int)+1)] T.e) 1 3)⟩ 1 (hs.length+1))=some (h.next+1):=rfl;refine⟨fun b hb=>?_,by show L<h.next+2;omega,⟨mF ⟨h.next+1,h.t.set h.next (.row (aa 0 [.int .i64 ((i:Int)+1)] T.e) 1 3)⟩ 1 (hs.length+1),wv,by simp[go_sem,au,cb],?_,?_,?_,?_⟩,fun b hb=>?_⟩
  ·have n1:¬b=h.next:=by omega
   have n2:¬b=L:=by omega
   have g1:=gg b (by show b<h.next+1;omega) (fun hh=>by have:=(mP _ hh).1;omega);simp only[go_sem,seval,n1]at g1;simp only[go_sem,seval,n2,g1];exact old b hb
  ·have e4:iL hs++[.int .i64 ((i:Int)+1)]=iL (hs++[(i:Int)+1]):=by unfold iL;rw[List.map_append];rfl
   rw[e4]at yd;rw[List.length_append];refine yd.aF (by show h.next+1+1<=h.next+2;omega) fun b hb=>?_
   rw[ez]at hb;obtain rfl:=Option.some.inj hb;have n2:¬h.next+1=L:=by omega
   simp only[go_sem,seval,n2,e4]
  ·refine ow.aF (by show h.next<=h.next+2;omega) fun b hb=>?_
   have df:=ow.lt hb;have n1:¬b=h.next:=by omega
   have n2:¬b=L:=by have:=(GW b hb).1;omega
   have g1:=gg b (by show b<h.next+1;omega) (fun hh=>(mP b hh).2.1 hb);simp only[go_sem,seval,n1]at g1;simp only[go_sem,seval,n2,g1]
  ·intro a ha;rw[IF]at ha;obtain rfl:=Option.some.inj ha;refine⟨by omega,fun hh=>?_,fun hh=>by have:=(Ml _ hh).1;omega⟩;have:=ow.lt hh;omega
  ·exact GW
  ·obtain⟨a1,a2,a3⟩:=Ml b hb;refine⟨by show b<h.next+2;omega,a2,?_⟩;have n1:¬b=h.next:=by omega
   have g1:=gg b (by show b<h.next+1;omega) (fun hh=>(mP b hh).2.2 hb);simp only[go_sem,seval,n1]at g1;simp only[go_sem,seval,a2,g1];exact a3
def SA(g0:Nat->Option AO)(B L:Nat)(c:aj)(v cv:AV)(k:Nat)(tm:T AV)(h:H):Prop:=
 ∃i:Nat,i+k=6/\tm.get 1=some (.ptr B 0)/\tm.get 5=some (.ptr L 0)/\tm.get 6=some (.int .i64 ((i:Int)+1))/\B<L/\g0 B=some (ag (au c v) 27)/\∃hs,hs++uX i ((oT c).drop i)=aH c/\RL g0 L c cv Fl hs 0 [] h
theorem NG(P:Program){call:ab}{g0:Nat->Option AO}{B L:Nat}{c:aj}{v cv:AV}(ov:aY cv=true)(eA:∀t∈oT c,0<=t)(hn:(aH c).length<=1000)(k:Nat)(tm:T AV)(h:H)(hI:SA g0 B L c v cv k tm h):
 WC P call u9 (bM 0 (fun tm h=>∃j,j<k/\SA g0 B L c v cv j tm h) (fun tm h=>tm.get 1=some (.ptr B 0)/\tm.get 5=some (.ptr L 0)/\RL g0 L c cv Fl (aH c) 0 [] h) (fun _ _=>False)) tm h:=by
 obtain⟨i,Cu,t1,t5,t6,D0,gB,hs,sS,r⟩:=hI;have h6:(oT c).length=6:=rfl;cases k with
 |zero=>
  obtain rfl:i=6:=by omega
  have z:¬(((6:Nat):Int)+1<=6):=by decide
  have z2:(6:Int)<((6:Nat):Int)+1:=by decide
  simp only[go_sem,seval,u9,t6];rw[List.drop_eq_nil_of_le (by omega),show uX ((6:Nat):Int) []=[]from rfl,List.append_nil]at sS;rw[sS]at r;exact⟨by simp[go_sem,t1],by simp[go_sem,t5],r⟩
 |succ k=>
  have e1:¬(6:Int)<(i:Int)+1:=by omega
  have hi:i<(oT c).length:=by omega
  have f1:fw .i64 ((i:Int)+1+1)=(i:Int)+1+1:=aS (by omega) (by omega);have e3:((i+1:Nat):Int)=(i:Int)+1:=rfl;have h0:=eA (oT c)[i] (List.getElem_mem hi);obtain⟨n,xV⟩:∃n:Nat,(oT c)[i]=(n:Int):=⟨(oT c)[i].toNat,by omega⟩;have Y7:(oT c)[i]?=some (n:Int):=by rw[List.getElem?_eq_getElem hi,xV]
  have hd:uX i ((oT c).drop i)=List.replicate n ((i:Int)+1)++uX ((i+1:Nat):Int) ((oT c).drop (i+1)):=by
   rw[List.drop_eq_getElem_cons hi,uX,xV];rfl
  have hlen:hs.length+n<=1000:=by
   have:=congrArg List.length sS;rw[hd,List.length_append,List.length_append,List.length_replicate]at this;omega
  simp only[go_sem,seval,u9,t1,t5,t6,e1];refine aT (I12 g0 B L c v cv i hs n) _ _ (fun k tm h' hI=>Sz P (by omega) Y7 ov hlen k tm h' hI) (fun dC h2 hR=>?_) (fun _ _ hh=>hh.elim) n _ _
   ⟨by simp[go_sem,t1],by simp[go_sem,t5],by simp[go_sem,t6],D0,gB,0,by omega,by simp[go_sem],by rw[List.replicate_zero,List.append_nil];exact r⟩
  obtain⟨s1,s5,s6,r2⟩:=hR;simp only[go_sem,seval,s1,s5,s6,f1];refine⟨k,Nat.lt_succ_self k,i+1,by omega,by simp[go_sem,s1],by simp[go_sem,s5],by simp[go_sem,e3],D0,gB,_,?_,r2⟩;rw[List.append_assoc,←hd,sS]
end
end Go.Proofs.YtgkjlklfjbljeaaGreat.CQ
namespace Go.Proofs.YtgkjlklfjbljeaaGreat.CQ
open Go.Proofs.YtgkjlklfjbljeaaGreat.Eo
noncomputable section
variable(P:Program)[PT P]{call:ab}
def SC(call:ab):Prop:=∀g0 L c cv p hs wl sP h (kd fi pe n:Int) (nn:Nat),n=(nn:Int)->aY cv=true->wl+nn<=10000->1<=pe->RL g0 L c cv p hs wl sP h->∃v h',call 131 [.ptr L 0,.int .i64 n,.int .u8 kd,.int .i64 fi,.int .i64 pe] h=some (v,h')/\(v=.int .i64 (wl:Int)/\RL g0 L c cv p hs (wl+nn) (sP++dD kd fi pe nn) h'/\h.next<=h'.next)
theorem I3{h:H}{a:Nat}{l:List Int}(hg:h.t.get a=some (.row (aa 0 [] T.e) 0 50))(hl:l.length<=65536)(ha:a<h.next):∃cv h',ry h 50 1 8 (.sl a 0 0 1 (some 0)) (uL l).length (uL l)=some (cv,h')/\aY cv=true/\ae h h'/\cm none 1 h' cv (uL l)/\∀b,own cv=some b->a<=b/\b<h'.next:=by
 by_cases hz:l.length=0
 ·have:l=[]:=List.eq_nil_of_length_eq_zero hz;subst this;exact⟨_,_,rfl,rfl,ae.refl _,.inr ⟨a,0,_,rfl,by decide,fun i x hi=>by simp[uL]at hi⟩,fun b hb=>by rw[←Option.some.inj (show some a=some b from hb)];exact⟨Nat.le_refl _,ha⟩⟩
 ·have Cc:=fm l;rw[Cc];refine⟨_,_,vS hg (by omega) (by omega) (by omega),rfl,⟨Nat.le_succ _,fun b hb=>cT hb (by simp[own])⟩,?_,fun b hb=>?_⟩
  ·have o:=eV (es:=1) (n:=l.length) (e:=50) (h:=h) (v:=.ax) (cs:=[]) (src:=uL l) .nil (by omega) (by omega);rw[Nat.zero_add,List.nil_append]at o;exact Own.GS o (by omega)
  ·rw[ez]at hb;obtain rfl:=Option.some.inj hb;exact⟨Nat.le_of_lt ha,Nat.lt_succ_self _⟩
def vZ:Nat->List Int->PL
 |_,[]=>[]
 |i,x::l=>dD 9 ((i:Int)+1) (5+x) (5+x).toNat++vZ (i+1) l
def dF(c:aj)(hs:List Int):PL:=dD 1 0 1 c.aq.toNat++dD 2 0 (bD c) (bD c).toNat++dD 3 0 1 1++dD 4 0 3 (3*c.bY).toNat++dD 5 0 1 c.bY.toNat++dD 6 0 1 6++dD 7 1 1 hs.length++dD 8 0 7 (db c.kind c.n c.aI*7).toNat++vZ 0 hs
def SD(g0:Nat->Option AO)(L:Nat)(c:aj)(cv:AV)(p:kG)(hs:List Int)(Eg:Int)(tp:PL)(k:Nat)(tm:T AV)(h:H):Prop:=
 tm.get 5=some (.ptr L 0)/\∃(i:Nat) (wl:Nat) (sP:PL),i+k=hs.length/\tm.get 11=some (.int .i64 ((i:Int)+1))/\(wl:Int)+eB (hs.drop i)=Eg/\sP++vZ i (hs.drop i)=tp/\RL g0 L c cv p hs wl sP h
theorem NH(P:Program){call:ab}(I4:SC call){g0:Nat->Option AO}{L:Nat}{c:aj}{cv:AV}{p:kG}{hs:List Int}{Eg:Int}{tp:PL}(ov:aY cv=true)(hb:∀x∈hs,1<=x/\x<=6)(hl:hs.length<=1000)(af1:Eg<=9000)(k:Nat)(tm:T AV)(h:H)(hI:SD g0 L c cv p hs Eg tp k tm h):
 WC P call vb (bM 4 (fun tm h=>∃j,j<k/\SD g0 L c cv p hs Eg tp j tm h) (fun tm h=>tm.get 5=some (.ptr L 0)/\∃wl:Nat,(wl:Int)=Eg/\RL g0 L c cv p hs wl tp h) (fun _ _=>False)) tm h:=by
 obtain⟨t5,i,wl,sP,Cu,t11,B7,Y8,r⟩:=hI;obtain⟨hv,wv,g,oh,ow,mP,GW⟩:=r.ex;have hlen:=oh.bR;cases k with
 |zero=>
  have e1:(hs.length:Int)<(i:Int)+1:=by omega
  simp only[go_sem,seval,vb,t5,t11,g,au,cb,hlen,e1];rw[List.drop_eq_nil_of_le (by omega),eB,Int.add_zero]at B7;rw[List.drop_eq_nil_of_le (by omega),vZ,List.append_nil]at Y8;exact⟨wl,B7,Y8▸r⟩
 |succ k=>
  have e1:¬(hs.length:Int)<(i:Int)+1:=by omega
  have hi:i<hs.length:=by omega
  obtain⟨x,hx⟩:∃x,hs[i]?=some x:=⟨_,List.getElem?_eq_getElem hi⟩;have hxm:=hb x (List.mem_of_getElem? hx);have B8:hs.drop i=x::hs.drop (i+1):=by
   rw[List.drop_eq_getElem_cons hi];rw[List.getElem?_eq_getElem hi]at hx;rw[Option.some.inj hx]
  rw[B8,eB]at B7;rw[B8,vZ,←List.append_assoc]at Y8;have Cz:=nJ (hs.drop (i+1)) fun y hy=>hb y (List.mem_of_mem_drop hy)
  have f1:fw .i64 (5+x)=5+x:=aS (by omega) (by omega);have f2:fw .i64 ((i:Int)+1-1)=(i:Int):=by rw[show(i:Int)+1-1=(i:Int) by omega];exact aS (by omega) (by omega)
  have f3:fw .i64 ((i:Int)+1+1)=(i:Int)+1+1:=aS (by omega) (by omega);have e3:((i+1:Nat):Int)=(i:Int)+1:=rfl;have e2:(i:Int)<(hs.length:Int):=by omega
  have iq:(iL hs)[i]?=some (.int .i64 x):=by unfold iL;rw[List.getElem?_map,hx];rfl
  obtain⟨xn,hxn⟩:∃n:Nat,5+x=(n:Int):=⟨(5+x).toNat,by omega⟩;have r0:=r;generalize hn:hs.length=n at*;generalize uD:iL hs=cs at*;cases oh with
  |nil=>omega
  |sl a len cs cap hcp hp iT df hg=>
   simp only[go_sem,seval,vb,t5,t11,g,au,cb,e1,f2,e2,hg,Nat.mul_one,iq,f1];refine af (I4 g0 L c cv p hs wl sP h 9 _ _ _ xn hxn ov (by omega) (by omega) r0) fun v1 h1 p1=>?_
   obtain⟨rfl,r1,eW⟩:=p1;simp only[go_sem,seval,t11,f3,eW];rw[show(5+x).toNat=xn by omega]at Y8;exact⟨k,Nat.lt_succ_self k,by simp[go_sem,t5],i+1,wl+xn,_,by omega,by simp[go_sem,e3],by omega,Y8,r1⟩
structure we(h:H)(L:Nat)(c:aj)(p:kG)(hs:List Int):Prop where
 ex:∃cv hv wv wl Qz,h.t.get L=some (ag (au c cv++(cb p++[hv,wv])) 87)/\aY cv=true/\Own 1 3 h hv hs.length (iL hs)/\Own 3 296 h wv wl Qz/\(p.wo=(wl:Int)/\Qz=I1 (dF c hs))/\cm none 1 h cv (uL c.aI)/\∀b,own cv=some b\/own hv=some b\/own wv=some b->L<b/\b<h.next
 lt:L<h.next
theorem we.step{h h':H}{L:Nat}{c:aj}{p:kG}{hs:List Int}(l:we h L c p hs)(s:ae h h'):we h' L c p hs:=by
 obtain⟨cv,hv,wv,wl,Qz,g,o,oh,ow,e,rd,lo⟩:=l.ex;exact⟨⟨cv,hv,wv,wl,Qz,(s.old L l.lt).trans g,o,oh.aF s.next fun b hb=>s.old b (oh.lt hb),ow.aF s.next fun b hb=>s.old b (ow.lt hb),e,rd.aF fun b hb=>s.old b (lo b (.inl hb)).2,fun b hb=>⟨(lo b hb).1,Nat.lt_of_lt_of_le (lo b hb).2 s.next⟩⟩,Nat.lt_of_lt_of_le l.lt s.next⟩
structure I8(c:aj)(h:H)(v:AV)(h':H):Prop where
 ex:∃L p,v=.aE [.ptr L 0,.int .i64 0]/\h.next<=L/\ye c p/\we h' L c p (aH c)
 st:ae h h'
def SE(call:ab):Prop:=∀h c v,cm none 1 h v (uL c.aI)->(∀a,own v=some a->a<h.next)->(∀x∈c.aI,kB x)->∃v' h',call 130 [.agg (au c v)] h=some (v',h')/\dg (fU c) h v' h'
def F53(call:ab):Prop:=∀h k n v (l:List Int),cJ k n l->cm none 1 h v (uL l)->(∀a,own v=some a->a<h.next)->(∀x∈l,kB x)->∃v' h',call 53 [.agg [.int .u8 k,.int .i64 n,v]] h=some (v',h')/\(v'=.aE [.int .i64 (db k n l),.int .i64 0]/\ae h h')
set_option maxHeartbeats 1000000 in
theorem w62(h5:SE call)(h73:F53 call)(I4:SC call)
 {h:H} {c:aj} {v:AV} (hv:cm none 1 h v (uL c.aI)) (dE:∀a,own v=some a->a<h.next) (fH:∀x∈c.aI,kB x) (hc:fU c) (hn:(aH c).length<=60):WF P call c62 [.agg (au c v)] h (I8 c h):=by
 have Cv:=hc;obtain⟨hT,Ib,mL,IG,IH,iD,oU,hd,Eh,MZ,II⟩:=hc;have hvN:=Az hd;have heN:=tR Cv;have iT:c.aI.length<=1000:=by
  rcases hd with⟨_,_,h1⟩|⟨_,_,h1⟩|⟨_,_,_,h1,_⟩
  ·rw[h1];decide
  ·rw[h1];decide
  ·omega
 have ov:=hv.one;have cr:=ae.new h (.row (aa 0 (au c v) T.e) 16 27);simp only[go_sem,seval,ov,au];refine af (h5 _ c v (hv.aF fun b hb=>cr.old b (dE b hb)) (fun a ha=>Nat.lt_succ_of_lt (dE a ha)) fH) fun v1 h1 p1=>?_
 obtain⟨e,rfl,he,bC⟩:=p1;obtain rfl:=he.2 Cv;have g1:=bC.old h.next (Nat.lt_succ_self _);simp only[go_sem,seval,au]at g1;have fC:=cr.trans bC;have eW:h.next<h1.next:=bC.next;obtain⟨B,hB⟩:∃B,B=h.next:=⟨_,rfl⟩;obtain⟨L,hL⟩:∃L,L=h1.next:=⟨_,rfl⟩;rw[←hB]at g1;simp only[←hB];have BL:¬B=L:=by omega
 have LB:¬L=B:=by omega
 have B1:¬B=L+1:=by omega
 have L1:¬L=L+1:=by omega
 have cF:∀x y,ae h1 ⟨h1.next+2,((h1.t.set h1.next x).set (h1.next+1) y)⟩:=fun x y=>⟨by show h1.next<=h1.next+2;omega,fun b hb=>by
  have q1:¬b=h1.next:=by omega
  have q2:¬b=h1.next+1:=by omega
  simp only[go_sem,seval,q1,q2]⟩
 have iW:=fun x y=>(hv.aF fun b hb=>(fC.trans (cF x y)).old b (dE b hb)).MS
 have hgE:∀x,(⟨h1.next+2,((h1.t.set h1.next x).set (h1.next+1) (.row (aa 0 [] T.e) 0 50))⟩:H).t.get (h1.next+1)=some (.row (aa 0 [] T.e) 0 50):=fun x=>by simp only[go_sem,seval]
 simp only[←hL]at iW hgE cF;have fV:=iW (.row (aa 0 (au c v++(cb Fl++[.ax,.ax])) T.e) 28 87) (.row (aa 0 [] T.e) 0 50);obtain⟨cv,h2,ecv,yi,fW,rdc,loc⟩:=I3 (h:=⟨L+2,((h1.t.set L (.row (aa 0 (au c v++(cb Fl++[.ax,.ax])) T.e) 28 87)).set (L+1) (.row (aa 0 [] T.e) 0 50))⟩) (a:=L+1) (by simp[go_sem]) (by omega:c.aI.length<=65536) (by show L+1<L+2;omega);have Xk:=fW.old L (by show L<L+2;omega);have GU:=fW.old B (by show B<L+2;omega);have Mj:L+2<=h2.next:=fW.next;simp only[go_sem,seval,au,cb,Fl,BL,B1,L1,g1]at fV ecv Xk GU;simp only[go_sem,seval,←hL,g1,ov,BL,B1,L1,fV,ecv,Xk,yi];have IJ:∀b,b<L->h2.t.get b=h1.t.get b:=fun b hb=>by
  have q1:¬b=L:=by omega
  have q2:¬b=L+1:=by omega
  have:=fW.old b (by show b<L+2;omega);simp only[go_sem,seval,q1,q2]at this;exact this
 obtain⟨g0,Xn⟩:∃g0,g0=h2.t.get:=⟨_,rfl⟩;have GX:g0 B=some (ag (au c v) 27):=by rw[Xn,GU];rfl
 refine aT (SA g0 B L c v cv) _ _ (fun k tm h' hI=>NG P yi (vU _ _ hT) (Nat.le_trans hn (by decide)) k tm h' hI) (fun tm4 h4 hR=>?_) (fun _ _ hh=>hh.elim) 6 _ _
  ⟨0,rfl,by simp[go_sem],by simp[go_sem],by simp[go_sem],by omega,GX,[],rfl,⟨fun b hb=>?_,by show L<h2.next;omega,⟨.ax,.ax,by simp[go_sem,au,cb,Fl],.nil,.nil,fun a ha=>(by cases ha),fun a ha=>(by cases ha)⟩,fun b hb=>?_⟩⟩
 ·obtain⟨t1,t5,r0⟩:=hR;obtain⟨hs,sS⟩:∃l,l=aH c:=⟨_,rfl⟩;have vV:∀x∈hs,1<=x/\x<=6:=by rw[sS];exact dh
  rw[←sS]at r0 hn;have af5:=nJ hs vV;have AE:=(r0.old B (by omega)).trans GX;have fE1:fw .i64 (2*c.aq)=2*c.aq:=aS (by omega) (by omega);have hbk:0<=c.buckets/\c.buckets<=16:=by
   by_cases e:c.az=3
   ·have:=iD e;omega
   ·have:=oU e;omega
  have fE2:fw .i64 (4*c.buckets)=4*c.buckets:=aS (by omega) (by omega);have QA:fw .i64 (3*c.bY)=3*c.bY:=aS (by omega) (by omega);have QB:fw .i64 (db c.kind c.n c.aI*7)=db c.kind c.n c.aI*7:=aS (by omega) (by omega);rw[SF];refine El (fun tm h'=>h'=h4/\tm.get 1=some (.ptr B 0)/\tm.get 5=some (.ptr L 0)/\tm.get 8=some (.int .i64 c.aq)) ?_ fun tm5 h5 hR5=>?_
  ·simp only[go_sem,seval,t1,AE,au];exact t5
  obtain⟨rfl,t1,t5,t8⟩:=hR5;refine El (fun tm h'=>h'=h5/\tm.get 1=some (.ptr B 0)/\tm.get 5=some (.ptr L 0)/\tm.get 8=some (.int .i64 (if c.az=2 then 2*c.aq else c.aq))) ?_ fun tm6 h6 hR6=>?_
  ·by_cases e2:c.az=2
   ·simp only[go_sem,seval,t1,AE,au,e2,fE1];exact t5
   ·simp only[go_sem,seval,t1,AE,au,e2];exact⟨t5,t8⟩
  obtain⟨rfl,t1,t5,t8⟩:=hR6;refine El (fun tm h'=>h'=h6/\tm.get 1=some (.ptr B 0)/\tm.get 5=some (.ptr L 0)/\tm.get 8=some (.int .i64 (bD c))) ?_ fun tm7 h7 hR7=>?_
  ·by_cases e3:c.az=3
   ·simp only[go_sem,seval,t1,AE,au,e3,fE2,bD];exact t5
   ·by_cases e2:c.az=2
    ·rw[if_pos e2]at t8;simp only[go_sem,seval,t1,AE,au,e2,e3,bD];exact⟨t5,t8⟩
    ·have e1:c.az=1:=by omega
     rw[if_neg e2]at t8;simp only[go_sem,seval,t1,AE,au,e1,bD];exact⟨t5,t8⟩
  obtain⟨rfl,t1,t5,t8⟩:=hR7;simp only[go_sem,seval,t1,t5,t8,AE,au];have hv7:cm none 1 h7 v (uL c.aI):=hv.aF fun b hb=>by
   have df:=dE b hb;exact((r0.old b (by omega)).trans (by rw[Xn])).trans ((IJ b (by omega)).trans (fC.old b df))
  refine af (h73 h7 c.kind c.n v c.aI hd hv7 (fun a ha=>by have:=dE a ha;have:=r0.nx;omega) fH) fun v8 h8 p8=>?_
  obtain⟨rfl,Ej⟩:=p8;have q0:=r0.step Ej;have Qw:=(q0.old B (by omega)).trans GX;obtain⟨sN,hsN⟩:∃n:Nat,c.aq=(n:Int):=⟨c.aq.toNat,by omega⟩;obtain⟨eN,ahb⟩:∃n:Nat,bD c=(n:Int):=⟨(bD c).toNat,by omega⟩;obtain⟨lN,hlN⟩:∃n:Nat,c.bY=(n:Int):=⟨c.bY.toNat,by omega⟩;obtain⟨vN,avf⟩:∃n:Nat,db c.kind c.n c.aI=(n:Int):=⟨(db c.kind c.n c.aI).toNat,by omega⟩;obtain⟨Yg,wv0,gL0,oh0,ow0,avh,avi⟩:=q0.ex;have avj:=oh0.one;have avk:=ow0.one;have M6:=oh0.bR;simp only[Fl]at gL0;simp only[go_sem,seval,t1,t5,t8,Qw,gL0,au,cb];refine af (I4 g0 L c cv _ hs 0 _ _ 1 0 1 c.aq sN hsN yi (by omega) (by omega) q0) fun v11 k1 q1'=>?_
  obtain⟨rfl,r1,M7⟩:=q1';obtain⟨a1,ha1⟩:∃a:Nat,a=0+sN:=⟨_,rfl⟩;rw[←ha1]at r1;obtain⟨xU,wv1,IK,Mi,Qy,ahc,ahd⟩:=r1.ex;have IL:=(r1.old B (by omega)).trans GX;have ahe:=Mi.one;have ahf:=Qy.one;have ahg:=Mi.bR;have ahh:=Qy.bR;simp only[go_sem,seval,IK,IL,ahe,ahf,yi,BL,LB,ahg,ahh,t1,t5,t8,QA,QB,au,cb];have q1:=r1.mG Mi Qy ahc ahd ⟨0,0,0,0,0,0,0,0,0,0⟩;refine af (I4 g0 L c cv _ hs a1 _ _ 2 0 (bD c) (bD c) eN ahb yi (by omega) (by omega) q1) fun v12 k2 q2'=>?_
  obtain⟨rfl,r2,M8⟩:=q2';obtain⟨a2,ha2⟩:∃a:Nat,a=a1+eN:=⟨_,rfl⟩;rw[←ha2]at r2;obtain⟨Ql,wv2,M9,oh2,ow2,ahk,ahl⟩:=r2.ex;have Na:=(r2.old B (by omega)).trans GX;have ahm:=oh2.one;have ahn:=ow2.one;have aho:=oh2.bR;have ahp:=ow2.bR;simp only[go_sem,seval,M9,Na,ahm,ahn,yi,BL,LB,aho,ahp,t1,t5,t8,QA,QB,au,cb];have q2:=r2.mG oh2 ow2 ahk ahl ⟨0,(a1:Int),0,0,0,0,0,0,0,0⟩;refine af (I4 g0 L c cv _ hs a2 _ _ 3 0 1 1 1 rfl yi (by omega) (by omega) q2) fun v13 k3 q3'=>?_
  obtain⟨rfl,r3,Nb⟩:=q3';obtain⟨a3,ha3⟩:∃a:Nat,a=a2+1:=⟨_,rfl⟩;rw[←ha3]at r3;obtain⟨hv3,wv3,Nc,oh3,ow3,ahs,aht⟩:=r3.ex;have Nf:=(r3.old B (by omega)).trans GX;have ahu:=oh3.one;have ahv:=ow3.one;have ahw:=oh3.bR;have ahx:=ow3.bR;simp only[go_sem,seval,Nc,Nf,ahu,ahv,yi,BL,LB,ahw,ahx,t1,t5,t8,QA,QB,au,cb];have q3:=r3.mG oh3 ow3 ahs aht ⟨0,(a1:Int),(a2:Int),0,0,0,0,0,0,0⟩;refine af (I4 g0 L c cv _ hs a3 _ _ 4 0 3 (3*c.bY) (3*lN) (by omega) yi (by omega) (by omega) q3) fun v14 k4 q4'=>?_
  obtain⟨rfl,r4,Ng⟩:=q4';obtain⟨a4,Se⟩:∃a:Nat,a=a3+(3*lN):=⟨_,rfl⟩;rw[←Se]at r4;obtain⟨Ic,wv4,Nh,M5,ow4,Sc,ahz⟩:=r4.ex;have Ni:=(r4.old B (by omega)).trans GX;have yf:=M5.one;have ahA:=ow4.one;have ahB:=M5.bR;have ahC:=ow4.bR;simp only[go_sem,seval,Nh,Ni,yf,ahA,yi,BL,LB,ahB,ahC,t1,t5,t8,QA,QB,au,cb];have q4:=r4.mG M5 ow4 Sc ahz ⟨0,(a1:Int),(a2:Int),(a3:Int),0,0,0,0,0,0⟩;refine af (I4 g0 L c cv _ hs a4 _ _ 5 0 1 c.bY lN hlN yi (by omega) (by omega) q4) fun v15 k5 q5'=>?_
  obtain⟨rfl,r5,Nj⟩:=q5';obtain⟨a5,ha5⟩:∃a:Nat,a=a4+lN:=⟨_,rfl⟩;rw[←ha5]at r5;obtain⟨hv5,wv5,Nk,oh5,ow5,ahF,ahG⟩:=r5.ex;have Nl:=(r5.old B (by omega)).trans GX;have ahH:=oh5.one;have ahI:=ow5.one;have ahJ:=oh5.bR;have ahK:=ow5.bR;simp only[go_sem,seval,Nk,Nl,ahH,ahI,yi,BL,LB,ahJ,ahK,t1,t5,t8,QA,QB,au,cb];have q5:=r5.mG oh5 ow5 ahF ahG ⟨0,(a1:Int),(a2:Int),(a3:Int),(a4:Int),0,0,0,0,0⟩;refine af (I4 g0 L c cv _ hs a5 _ _ 6 0 1 6 6 rfl yi (by omega) (by omega) q5) fun v16 k6 q6'=>?_
  obtain⟨rfl,r6,Nn⟩:=q6';obtain⟨a6,ha6⟩:∃a:Nat,a=a5+6:=⟨_,rfl⟩;rw[←ha6]at r6;obtain⟨hv6,wv6,Np,oh6,ow6,ahN,ahO⟩:=r6.ex;have Nq:=(r6.old B (by omega)).trans GX;have ahP:=oh6.one;have ahQ:=ow6.one;have ahR:=oh6.bR;have ahS:=ow6.bR;simp only[go_sem,seval,Np,Nq,ahP,ahQ,yi,BL,LB,ahR,ahS,t1,t5,t8,QA,QB,au,cb];have q6:=r6.mG oh6 ow6 ahN ahO ⟨0,(a1:Int),(a2:Int),(a3:Int),(a4:Int),(a5:Int),0,0,0,0⟩;refine af (I4 g0 L c cv _ hs a6 _ _ 7 1 1 (hs.length:Int) hs.length rfl yi (by omega) (by omega) q6) fun v17 k7 q7'=>?_
  obtain⟨rfl,r7,Nr⟩:=q7';obtain⟨a7,ha7⟩:∃a:Nat,a=a6+hs.length:=⟨_,rfl⟩;rw[←ha7]at r7;obtain⟨hv7,wv7,Ns,oh7,ow7,ahV,ahW⟩:=r7.ex;have Nt:=(r7.old B (by omega)).trans GX;have ahX:=oh7.one;have ahY:=ow7.one;have ahZ:=oh7.bR;have ah0:=ow7.bR;simp only[go_sem,seval,Ns,Nt,ahX,ahY,yi,BL,LB,ahZ,ah0,t1,t5,t8,QA,QB,au,cb];have q7:=r7.mG oh7 ow7 ahV ahW ⟨0,(a1:Int),(a2:Int),(a3:Int),(a4:Int),(a5:Int),(a6:Int),0,0,0⟩;refine af (I4 g0 L c cv _ hs a7 _ _ 8 0 7 (db c.kind c.n c.aI*7) (vN*7) (by omega) yi (by omega) (by omega) q7) fun v18 k8 q8'=>?_
  obtain⟨rfl,r8,Nu⟩:=q8';obtain⟨a8,ha8⟩:∃a:Nat,a=a7+(vN*7):=⟨_,rfl⟩;rw[←ha8]at r8;obtain⟨hv8,wv8,Sf,oh8,Y9,ah2,ah3⟩:=r8.ex;have Sg:=(r8.old B (by omega)).trans GX;have ah4:=oh8.one;have ah5:=Y9.one;have ah6:=oh8.bR;have ah7:=Y9.bR;simp only[go_sem,seval,Sf,Sg,ah4,ah5,yi,BL,LB,ah6,ah7,t1,t5,t8,QA,QB,au,cb];have q9:=r8.mG oh8 Y9 ah2 ah3 ⟨0,(a1:Int),(a2:Int),(a3:Int),(a4:Int),(a5:Int),(a6:Int),(a7:Int),(a8:Int),0⟩;refine aT (SD g0 L c cv ⟨0,(a1:Int),(a2:Int),(a3:Int),(a4:Int),(a5:Int),(a6:Int),(a7:Int),(a8:Int),0⟩ hs ((a8:Int)+eB hs) (dF c hs)) _ _ (fun k tm h' hI=>NH P I4 yi vV (by omega) (by omega) k tm h' hI) (fun tm9 h9 Y3=>?_) (fun _ _ hh=>hh.elim) hs.length _ _
   ⟨by simp[go_sem,t5],0,a8,_,by omega,by simp[go_sem],by rw[List.drop_zero],by rw[List.drop_zero,List.nil_append,dF,show c.aq.toNat=sN by omega,show(bD c).toNat=eN by omega,show(3*c.bY).toNat=3*lN by omega,show c.bY.toNat=lN by omega,show(db c.kind c.n c.aI*7).toNat=vN*7 by omega],q9⟩
  obtain⟨s5,SG,avt,r9⟩:=Y3;obtain⟨hv9,wv9,gL9,oh9,Za,SH,SI⟩:=r9.ex;have ah8:=oh9.one;have ah9:=Za.one;have aia:=Za.bR;have NA:=r9.nx;simp only[go_sem,seval,s5,gL9,ah8,ah9,yi,aia,au,cb];have iI:=r9.mG oh9 Za SH SI ⟨0,(a1:Int),(a2:Int),(a3:Int),(a4:Int),(a5:Int),(a6:Int),(a7:Int),(a8:Int),(SG:Int)⟩;refine⟨⟨L,⟨0,(a1:Int),(a2:Int),(a3:Int),(a4:Int),(a5:Int),(a6:Int),(a7:Int),(a8:Int),(SG:Int)⟩,rfl,by omega,⟨rfl,by show(a1:Int)=c.aq;omega,?_,?_,?_,?_,?_⟩,⟨⟨cv,hv9,wv9,SG,_,by simp[go_sem,au,cb],yi,?_,?_,⟨rfl,rfl⟩,rdc.aF fun b hb=>(iI.Ml b hb).2.2.trans (by rw[Xn]),fun b hb=>?_⟩,NA⟩⟩,⟨by show h.next<=h9.next;omega,fun b hb=>?_⟩⟩
  ·show(a1:Int)+bD c<=SG
   omega
  ·show c.aq<=(a5:Int)/\(a5:Int)+6<=SG
   omega
  ·rw[←sS]
   show c.aq<=(a6:Int)/\(a6:Int)+(hs.length:Int)<=SG
   omega
  ·show(SG:Int)<=5000
   omega
  ·unfold aA MY;rw[kG.mk.injEq,←sS];exact⟨rfl,by omega,by omega,by omega,by omega,by omega,by omega,by omega,by omega,by omega⟩
  ·rw[←sS];refine oh9.aF (Nat.le_refl _) fun b hb=>?_
   have n1:¬b=L:=by have:=(SH b hb).1;omega
   simp only[go_sem,seval,n1]
  ·rw[←sS];refine Za.aF (Nat.le_refl _) fun b hb=>?_
   have n1:¬b=L:=by have:=(SI b hb).1;omega
   simp only[go_sem,seval,n1]
  ·rcases hb with hb|hb|hb
   ·exact⟨(loc b hb).1,(iI.Ml b hb).1⟩
   ·exact⟨(SH b hb).1,oh9.lt hb⟩
   ·exact⟨(SI b hb).1,Za.lt hb⟩
  ·have n1:¬b=L:=by omega
   simp only[go_sem,seval,n1];exact((r9.old b (by omega)).trans (by rw[Xn])).trans ((IJ b (by omega)).trans (fC.old b hb))
 ·have n1:¬b=L:=by omega
  simp only[go_sem,seval,n1,Xn]
 ·obtain⟨a1,a2⟩:=loc b hb;have n1:¬b=L:=by omega
  refine⟨a2,n1,?_⟩;simp only[go_sem,seval,n1,Xn]
def vc:CC:=(Qq (Sq [a 19 4,qP 20 3 19 1] (Cq 20 .skip (.exit 0))) (Qq (.block 1 (Sq [a 23 0,j 24 23,d 25 26 24,i 26 25,a 27 4,ql 28 3 27 1,G 29 1 26 28,i 30 29,a 5 30] (Qq (.cn ⟨[([g 0 3,g 1 0,n 2 32 1,m 3 33 2 16,m 4 34 3 6,k 5 35 4,g 6 4,qB 7 36 5 37 6 3,qI 8 38 7 3 1,g 9 3,g 10 0,n 11 41 10,m 12 42 11 16,m 13 43 12 5,k 14 44 13,g 15 5,qB 16 45 14 46 15 3,qI 17 47 16 3 1,Y 18 40 9 48 17 1,k 19 49 18,Y 20 31 0 39 8 1],some (V 21 51 20 50 19 1)),([],none)],[(0,31),(1,32),(2,33),(3,34),(4,35),(5,36),(6,37),(7,38),(8,39),(9,40),(10,41),(11,42),(12,43),(13,44),(14,45),(15,46),(16,47),(17,48),(18,49),(19,50),(20,51)],[]⟩) (Oq [a 52 3,a 53 0,j 54 53,d 55 16 54,d 56 5 55,i 57 56,a 58 5,qg 59 3 57 58,ql 60 3 59 1,a 61 4,qQ 62 61,G 63 1 52 60,s 1 63 62])))) (Oq [a 21 4,ql 22 3 21 1,a 4 22])))
@[go_sem]def c64:CF:=⟨1,(Sq [U 2] (Qq (Sq [a 6 0,y 7 88 6] (Kq 7 [U 2] .skip)) (Sq [a 8 0,j 9 8,d 10 27 9,i 11 10,N 12 11,zr 13 50 1 8 0 12,a 3 13] (Qq (Sq [a 14 0,j 15 14,d 16 26 15,i 17 16,N 18 17,a 4 18] (.block 0 (.loop vc))) (Rq [a 64 3,a 2 64]))))),[.tmp 2]⟩
@[go_sem]def c63:CF:=⟨1,(Sq [p 2,b 3 0] (Qq (Sq [a 4 0,N 5 4,qe 6 3 5 0] (Kq 6 [p 2,b 3 2] .skip)) (Qq (Sq [a 7 0,N 8 7,qW 9 3 8 65536] (Kq 9 [p 2,b 3 5] .skip)) (Rq [zL 10 50 1 0,a 11 0,qo 12 50 1 8 10 11,je 13 0 1 12,z 14 188 13,a 2 14,b 3 0])))),[.tmp 2,.tmp 3]⟩
@[go_sem]def c65:CF:=⟨2,(Sq [p 4,b 5 0] (Qq (Sq [a 7 0,y 8 89 7,a 9 8,r 10 9 1,zw 11 9 88 10,u 12 9 11] (Kq 12 [p 4,b 5 1] .skip)) (Qq (Qq (.cn ⟨[([g 0 0,n 1 13 0,m 2 14 1 0,k 3 15 2,qK 4 16 3,g 5 1,n 6 18 5,m 7 19 6 16,m 8 20 7 9,k 9 21 8,zR 10 17 4 22 9 3],none)],[(0,13),(1,14),(2,15),(3,16),(4,17),(5,18),(6,19),(7,20),(8,21),(9,22),(10,23)],[]⟩) (Kq 23 [p 4,b 5 2] .skip)) (Sq [a 24 1,j 25 24,d 26 26 25,i 27 26,N 28 27,C 29 3 28 1,a 6 29] (Qq (.cn ⟨[([g 0 0,g 1 1,g 2 6,zP 3 32 2 2 4 1 1,g 4 6,zP 5 34 4 4 4 1 1,g 6 6,zg 7 36 6 6 3 1 8 0,⟨8,[(30,some 0),(31,some 1),(33,some 3),(35,some 5),(37,some 7)],none,.p (.build [.aJ,.aJ,.ax,.ax,.ax] [(0,1,.t 30),(1,1,.t 31),(2,1,.t 33),(3,1,.t 35),(4,1,.t 37)])⟩,qY 9 38 8 256,t 10 39 9,qS 11 0],none)],[(0,30),(1,31),(2,32),(3,33),(4,34),(5,35),(6,36),(7,37),(8,38),(9,39),(10,4),(11,5)],[]⟩) .ret))))),[.tmp 4,.tmp 5]⟩
@[go_sem]def c66:CF:=⟨2,(Sq [p 4,b 5 0] (Qq (Sq [a 6 0,y 7 89 6,a 8 7,r 9 8 1,zw 10 8 88 9,u 11 8 10] (Kq 11 [p 4,b 5 1] .skip)) (Qq (Qq (.cn ⟨[([g 0 0,n 1 12 0,m 2 13 1 0,k 3 14 2,qK 4 15 3,g 5 1,n 6 17 5,m 7 18 6 16,m 8 19 7 9,k 9 20 8,zR 10 16 4 21 9 3],none)],[(0,12),(1,13),(2,14),(3,15),(4,16),(5,17),(6,18),(7,19),(8,20),(9,21),(10,22)],[]⟩) (Kq 22 [p 4,b 5 2] .skip)) (Rq [a 23 0,a 24 1,zQ 25 0 1 23 1 1 24,z 26 258 25,a 4 26,b 5 0])))),[.tmp 4,.tmp 5]⟩
@[go_sem]def Zb:CF:=⟨3,(Sq [b 6 0,b 7 0] (Qq (Sq [a 8 0,⟨some 9,none,.p (.bin .lss 5 false true (.t 8) (.c (.int .u8 1)))⟩,a 10 9,r 11 10 0,zH 12 10 5 11 3,u 13 10 12,a 14 13,r 15 14 1,qv 16 14 3 15 1,u 17 14 16,a 18 17,r 19 18 1,qb 20 18 3 19 64,u 21 18 20] (Kq 21 [b 6 0,b 7 2] .skip)) (Qq (Sq [a 22 0,L 23 5 22 3] (Kq 23 [a 24 2,q 25 179 24,o 26 25 0,o 27 25 1,a 6 26,a 7 27] .skip)) (Qq (Sq [a 28 2,A 29 3 28 0] (Kq 29 [b 6 0,b 7 2] .skip)) (Qq (Sq [a 30 0,L 31 5 30 1] (Kq 31 [a 32 1,q 33 180 32,o 34 33 0,o 35 33 1,a 6 34,a 7 35] .skip)) (Rq [a 36 1,q 37 181 36,o 38 37 0,o 39 37 1,a 6 38,a 7 39])))))),[.tmp 6,.tmp 7]⟩
@[go_sem]def Zc:CF:=⟨3,(Sq [p 6,b 7 0] (Qq (Sq [a 10 0,y 11 89 10] (Kq 11 [p 6,b 7 1] .skip)) (Sq [a 13 2,q 14 180 13,a 12 14,o 15 12 0,o 16 12 1,a 8 15,a 9 16] (Qq (Sq [a 17 9,A 18 41 17 0] (Kq 18 [a 19 9,p 6,a 7 19] .skip)) (Qq (Sq [a 20 0,a 21 1,a 22 8,Q 23 182 20 21 22,qa 24 23] (Kq 24 [p 6,b 7 3] .skip)) (Rq [a 25 0,a 26 1,a 27 2,jw 28 403 3 16 0 27,jx 29 0 0 1 25 1 1 26 2 1 28,z 30 324 29,a 6 30,b 7 0])))))),[.tmp 6,.tmp 7]⟩
@[go_sem]def Zd:CF:=⟨3,(Sq [p 6,b 7 0] (Qq (Sq [a 10 0,y 11 89 10] (Kq 11 [p 6,b 7 1] .skip)) (Sq [a 13 2,q 14 181 13,a 12 14,o 15 12 0,o 16 12 1,a 8 15,a 9 16] (Qq (Sq [a 17 9,A 18 41 17 0] (Kq 18 [a 19 9,p 6,a 7 19] .skip)) (Qq (Sq [a 20 0,a 21 1,a 22 8,Q 23 182 20 21 22,qa 24 23] (Kq 24 [p 6,b 7 3] .skip)) (Rq [a 25 0,a 26 1,a 27 2,jw 28 403 3 16 0 27,jx 29 0 0 1 25 1 1 26 2 1 28,z 30 325 29,a 6 30,b 7 0])))))),[.tmp 6,.tmp 7]⟩
@[go_sem]def Ze:CF:=⟨3,(Sq [p 6,b 7 0] (Qq (Sq [a 10 0,y 11 89 10] (Kq 11 [p 6,b 7 1] .skip)) (Sq [a 13 2,q 14 179 13,a 12 14,o 15 12 0,o 16 12 1,a 8 15,a 9 16] (Qq (Sq [a 17 9,A 18 41 17 0] (Kq 18 [a 19 9,p 6,a 7 19] .skip)) (Qq (Sq [a 20 0,a 21 1,a 22 8,Q 23 182 20 21 22,qa 24 23] (Kq 24 [p 6,b 7 3] .skip)) (Rq [a 25 0,a 26 1,a 27 2,⟨some 28,none,.p (.build [.aJ,aN,aN,bO,bO,aN,cY,bO,bO,aN,cY,bO,bO,aN,cY,bO,bO,aN,cY,bO,bO,aN,cY,bO,bO,aN,cY,bO,bO,aN,cY,bO,bO,aN,cY,bO,bO,aN,cY,bO,bO,aN,cY,bO,bO,aN,cY,bO,bO,aN,cY,bO,bO,aN,cY,bO,bO,aN,cY,bO,bO,aN,cY,bO,bO,aN,cY,bO,bO,aN,cY,bO,bO,aN,cY,bO,bO,aN,cY,bO,bO,aN,cY,bO,bO,aN,cY,bO,bO,aN,cY,bO,bO,aN,cY,bO,bO,aN,cY,bO,bO,aN,cY,bO,bO,aN,cY,bO,bO,aN,cY,bO,bO,aN,cY,bO,bO,aN,cY,bO,bO,aN,cY,bO,bO,aN,cY,bO,bO,aN,cY,bO,bO,aN,cY,bO,bO,aN,cY,bO,bO,aN,cY,bO,bO,aN,cY,bO,bO,aN,cY,bO,bO,aN,cY,bO,bO,aN,cY,bO,bO,aN,cY,bO,bO,aN,cY,bO,bO,aN,cY,bO,bO,aN,cY,bO,bO,aN,cY,bO,bO,aN,cY,bO,bO,aN,cY,bO,bO,aN,cY,bO,bO,aN,cY,bO,bO,aN,cY,bO,bO,aN,cY,bO,bO,aN,cY,bO,bO,aN,cY,bO,bO,aN,cY,bO,bO,aN,cY,bO,bO,aN,cY,bO,bO,aN,cY,bO,bO,aN,cY,bO,bO,aN,cY,bO,bO,aN,cY,bO,bO,aN,cY,bO,bO,aN,cY,bO,bO,aN,cY,bO,bO,aN,cY,bO,bO,aN,cY] [(0,1,.t 25),(1,1,.t 26),(2,1,.t 27)])⟩,z 29 330 28,a 6 29,b 7 0])))))),[.tmp 6,.tmp 7]⟩
@[go_sem]def c67:CF:=⟨5,(Sq [p 10,b 11 0] (Qq (Sq [a 16 0,y 17 89 16] (Kq 17 [p 10,b 11 1] .skip)) (Qq (Sq [a 19 1,a 20 3,a 21 4,Q 22 132 19 20 21,a 18 22,o 23 18 0,o 24 18 1,a 12 23,a 13 24] (Sq [a 25 13,A 26 41 25 0] (Kq 26 [a 27 13,p 10,a 11 27] .skip))) (Sq [a 28 1,a 29 3,⟨some 30,none,.p (.build [.int .u8 0,.int .i64 0,.aJ,.aJ,.aJ] [(0,1,.t 28),(1,1,.t 29)])⟩,z 31 263 30,a 14 31] (Sq [b 15 0] (Qq (Sq [a 32 1] (.block 0 (Sq [L 44 5 32 1,a 43 44] (Cq 43 (Oq [a 46 14,a 47 0,a 48 2,a 49 3,Q 50 133 47 48 49,a 45 50,o 51 45 0,o 52 45 1,j 53 46,d 54 2 53,s 1 54 51,a 15 52]) (Sq [L 56 5 32 2,a 55 56] (Cq 55 (Oq [a 58 14,a 59 0,a 60 2,a 61 3,Q 62 134 59 60 61,a 57 62,o 63 57 0,o 64 57 1,j 65 58,d 66 3 65,s 1 66 63,a 15 64]) (Oq [a 34 14,a 35 0,a 36 2,a 37 4,Q 38 135 35 36 37,a 33 38,o 39 33 0,o 40 33 1,j 41 34,d 42 4 41,s 1 42 39,a 15 40]))))))) (Qq (Sq [a 67 15,A 68 41 67 0] (Kq 68 [a 69 15,p 10,a 11 69] .skip)) (Rq [a 70 14,a 10 70,b 11 0])))))))),[.tmp 10,.tmp 11]⟩
@[go_sem]def Zf:CF:=⟨1,(Sq [b 2 0,b 3 0] (Qq (Sq [a 4 0,D 5 3 4 1,a 6 5,r 7 6 0,qb 8 6 3 7 64,u 9 6 8] (Kq 9 [b 2 0,b 3 2] .skip)) (Rq [a 10 0,a 2 10,b 3 0]))),[.tmp 2,.tmp 3]⟩
@[go_sem]def Zg:CF:=⟨1,(Sq [b 2 0,b 3 0] (Qq (Sq [a 4 0,D 5 3 4 1,a 6 5,r 7 6 0,qb 8 6 3 7 64,u 9 6 8] (Kq 9 [b 2 0,b 3 2] .skip)) (Rq [a 10 0,qs 11 3 2 10,a 2 11,b 3 0]))),[.tmp 2,.tmp 3]⟩
@[go_sem]def Zh:CF:=⟨1,(Sq [b 2 0,b 3 0] (Qq (Sq [a 4 0,D 5 3 4 1,a 6 5,r 7 6 0,qb 8 6 3 7 16,u 9 6 8] (Kq 9 [b 2 0,b 3 2] .skip)) (Rq [a 10 0,qs 11 3 4 10,a 2 11,b 3 0]))),[.tmp 2,.tmp 3]⟩
@[go_sem]def Zi:CF:=⟨3,(Sq [w 6] (Rq [a 7 1,qP 8 3 7 0,a 9 8,K 10 9 2,K 11 9 0,zd 12 9 11,qi 13 9 0 12,qh 14 9 13,qr 15 9 14,zG 16 9 3 10 15,O 17 9 16,a 18 17,K 19 18 1,K 20 18 0,zd 21 18 20,qi 22 18 0 21,qh 23 18 22,qr 24 18 23,K 25 18 2,⟨some 26,some (18,true),.p (.bin .sub 3 false false (.t 24) (.t 25))⟩,zG 27 18 3 19 26,O 28 18 27,a 6 28])),[.tmp 6]⟩
def oY(po li:Int)(hs:List Int)(i:Nat)(ws:List Int):List Int:=match hs[i]? with
 |none=>ws
 |some x=>(ws.set (li+((i:Int)+1) -1).toNat (ws.getD (po+x-1).toNat 0)).set (po+x-1).toNat ((i:Int)+1)
def wg(po li:Int)(hs:List Int)(W:Nat):Nat->List Int
 |0=>List.replicate W 0
 |j+1=>oY po li hs (hs.length-1-j) (wg po li hs W j)
def GY(c:aj)(W:Nat)(ws:List Int):Prop:=ws=wg (aA c).po (aA c).li (aH c) W (aH c).length
def I29(h0:H)(L W:Nat)(s:Int)(po li:Int)(hs:List Int)(k:Nat)(tm:T AV)(h:H):Prop:=
 tm.get 0=some (.ptr L 0)/\tm.get 3=some (.sl h0.next 0 W 1 (some W))/\tm.get 4=some (.int .i64 (k:Int))/\h.next=h0.next+1/\(∀b,b<h0.next->h.t.get b=h0.t.get b)/\∃ws,h.t.get h0.next=some (.row (aa 0 (uL ws) T.e) W 50)/\Zero W s ws/\ws=wg po li hs W (hs.length-k)
theorem SJ(P:Program){call:ab}{h0:H}{L:Nat}{c:aj}{p:kG}{cv hv wv:AV}{hs:List Int}{W:Nat}(hp:ye c p)(hlen:(hs.length:Int)=(aH c).length)(fV:0<=c.aq)(hm:∀x∈hs,1<=x/\x<=6)(hn:hs.length<=60)(hW:p.wo=(W:Int))(hL:L<h0.next)
 (gL:h0.t.get L=some (ag (au c cv++(cb p++[hv,wv])) 87)) (oh:Own 1 3 h0 hv hs.length (iL hs)) (k:Nat) (hk:k<=hs.length) (tm:T AV) (h:H) (hI:I29 h0 L W c.aq p.po p.li hs k tm h):
 WC P call vc (bM 0 (fun tm h=>∃j,j<k/\j<=hs.length/\I29 h0 L W c.aq p.po p.li hs j tm h) (fun tm h=>tm.get 3=some (.sl h0.next 0 W 1 (some W))/\ae h0 h/\h0.next<h.next/\∃ws,h.t.get h0.next=some (.row (aa 0 (uL ws) T.e) W 50)/\Zero W c.aq ws/\ws=wg p.po p.li hs W hs.length) (fun _ _=>False)) tm h:=by
 obtain⟨t0,t3,t4,nx,old,ws,gO,z,zi⟩:=hI;have vT:=(old L hL).trans gL;cases k with
 |zero=>
  have e1:(((0:Nat):Int)<1)=True:=by simp
  simp only[go_sem,seval,vc,t3,t4];exact⟨⟨by omega,old⟩,by omega,ws,gO,z,by rw[zi,Nat.sub_zero]⟩
 |succ i=>
  have hi:i<hs.length:=by omega
  have p1:=hp.po;have p2:=hp.li;have p3:=hp.wo;obtain⟨x,YF,hx,B9,hx6⟩:∃x,hs[i]?=some x/\(iL hs)[i]?=some (.int .i64 x)/\1<=x/\x<=6:=⟨hs[i],List.getElem?_eq_getElem hi,by unfold iL;rw[List.getElem?_map,List.getElem?_eq_getElem hi];rfl,hm _ (List.getElem_mem hi)⟩;have c1:((i+1:Nat):Int)=(i:Int)+1:=rfl;rw[c1]at t4;have e1:¬(i:Int)+1<1:=by omega
  have f2:fw .i64 ((i:Int)+1-1)=(i:Int):=by rw[show(i:Int)+1-1=(i:Int) by omega];exact aS (by omega) (by omega)
  have I9:fw .u64 ((i:Int)+1)=(i:Int)+1:=uE (by omega) (by omega);have f3:fw .i64 (p.po+x)=p.po+x:=aS (by omega) (by omega);have f5:fw .i64 (p.li+((i:Int)+1))=p.li+((i:Int)+1):=aS (by omega) (by omega);obtain⟨q,hq⟩:∃q:Nat,p.po+x-1=(q:Int):=⟨(p.po+x-1).toNat,by omega⟩;obtain⟨q2,YI⟩:∃q:Nat,p.li+((i:Int)+1) -1=(q:Int):=⟨(p.li+((i:Int)+1) -1).toNat,by omega⟩;have fq:fw .i64 (q:Int)=(q:Int):=aS (by omega) (by omega);have fq2:fw .i64 (q2:Int)=(q2:Int):=aS (by omega) (by omega);have Sk:q<W:=by omega
  have Ny:(q:Int)<(W:Int):=by omega
  have Nz:q2<W:=by omega
  have IM:(q2:Int)<(W:Int):=by omega
  have Cc:=fm ws;rw[z.len]at Cc;obtain⟨y,hy⟩:∃y,ws[q]?=some y:=⟨_,List.getElem?_eq_getElem (by rw[z.len];exact Sk)⟩;have ri:(ws.set q2 y).set q ((i:Int)+1)=wg p.po p.li hs W (hs.length-i):=by
   rw[show hs.length-i=(hs.length-(i+1))+1 by omega]
   show _=oY p.po p.li hs (hs.length-1-(hs.length-(i+1))) (wg p.po p.li hs W (hs.length-(i+1)))
   rw[←zi,show hs.length-1-(hs.length-(i+1))=i by omega];unfold oY;rw[YF];simp only[];rw[hq,YI,Int.toNat_natCast,Int.toNat_natCast,List.getD_eq_getElem?_getD,hy];rfl
  have SK:(uL ws)[q]?=some (.int .u64 y):=by unfold uL;rw[List.getElem?_map,hy];rfl
  have e2:(i:Int)<(hs.length:Int):=by omega
  have lW:¬L=h0.next:=by omega
  have mP:∀b,own hv=some b->h.t.get b=h0.t.get b:=fun b hb=>old b (oh.lt hb)
  generalize Fo:hs.length=n at*;generalize uD:iL hs=cs at*;cases oh with
  |nil=>omega
  |sl a len cs cap hcp hpo iT df hg=>
   have Ii:=(mP a rfl).trans hg;simp only[go_sem,seval,vc,t0,t3,t4,e1,f2,vT,au,cb,Ii,e2,Nat.mul_one,hx,f3,f5,hq,YI,fq,fq2,Ny,IM,gO,Cc,Sk,Nz,SK,Nat.succ_le_of_lt,I9,lW];refine⟨i,Nat.lt_succ_self i,by omega,by simp[go_sem,t0],by simp[go_sem,t3],by simp[go_sem],nx,fun b hb=>?_,(ws.set q2 y).set q ((i:Int)+1),by simp[go_sem,AG],(z.set (by omega) y).set (by omega) _,by rw[Fo];exact ri⟩;have e0:¬b=h0.next:=by omega
   simp only[go_sem,seval,e0];exact old b hb
theorem w64{h:H}{L:Nat}{c:aj}{p:kG}(hL:we h L c p (aH c))(hp:ye c p)(fV:0<=c.aq)(hn:(aH c).length<=60)(W:Nat)(hW:p.wo=(W:Int))(hW0:0<W):
 WF P call c64 [.ptr L 0] h (Fm W c.aq (GY c W) h):=by
 obtain⟨cv,hv,wv,wl,Qz,gL,o1,oh,ow,⟨ew,-⟩,-,-⟩:=hL.ex;have df:=hL.lt;have p3:=hp.wo;have YV:wl=W:=by omega
 subst YV;have e1:8*wl<=281474976710656:=by omega
 have e2:wl<=281474976710656:=by omega
 have x1:¬L=h.next:=by omega
 have yg:=oh.bR;have hwA:=ow.bR;have z0:Zero wl c.aq (List.replicate wl 0):=⟨List.length_replicate,fun i hi=>by
  have:=hp.po;rw[List.getElem?_replicate,if_pos (by omega)]⟩
 have hz:uL (List.replicate wl 0)=List.replicate wl (.int .u64 0):=by unfold uL;rw[List.map_replicate]
 simp only[go_sem,seval,gL,au,cb,x1,hwA,fM,dZ,Nat.mul_one,Nat.le_refl,e1,e2,decide_true,Bool.and_self,cond_true,yg];refine aT (fun k tm h'=>k<=(aH c).length/\I29 h L wl c.aq p.po p.li (aH c) k tm h') _ (fun _ _=>False) (fun k tm h' hI=>SJ P hp rfl fV dh hn hW df gL oh k hI.1 tm h' hI.2) (fun dC h2 hR=>?_) (fun _ _ hh=>hh.elim) (aH c).length _ _
  ⟨Nat.le_refl _,by simp[go_sem],by simp[go_sem],by simp[go_sem],rfl,fun b hb=>?_,List.replicate wl 0,by simp[go_sem,hz],z0,by rw[Nat.sub_self];rfl⟩
 ·obtain⟨t3,st,Sl,ws,gO,z,zi⟩:=hR;simp only[go_sem,seval,t3];refine⟨⟨ws,?_,z,by unfold GY;rw[←hp.eq];exact zi⟩,fun a ha=>by cases ha;exact Nat.le_refl _,st⟩;rw[z.len];refine .sl _ _ _ _ (.inr rfl) hW0 (by rw[fm,z.len,Nat.mul_one]) Sl ?_
  rw[gO,ag,fm,z.len]
 ·have n1:¬b=h.next:=by omega
  simp only[go_sem,seval,n1]
structure fN(h:H)(M W:Nat)(ws:List Int)(lg:AV):Prop where
 g:h.t.get M=some (ag [.sl W 0 ws.length 1 none,lg] 188)
 o:aY lg=true
 w:h.t.get W=some (ag (uL ws) 50)
 ne:M≠W
theorem fN.step{h h':H}{M W:Nat}{ws:List Int}{lg:AV}(m:fN h M W ws lg)(hM:M<h.next)(hW:W<h.next)(s:ae h h'):fN h' M W ws lg:=⟨(s.old M hM).trans m.g,m.o,(s.old W hW).trans m.w,m.ne⟩
def Ja(ws:List Int)(h:H)(v:AV)(h':H):Prop:=ae h h'/\∃M W,v=.aE [.ptr M 0,.int .i64 0]/\fN h' M W ws .ax/\h.next<=M/\h.next<=W/\M<h'.next/\W<h'.next
theorem w63(P:Program){call:ab}{h:H}{v:AV}{ws:List Int}(hv:Own 1 50 h v ws.length (uL ws))(h0:0<ws.length)(h1:ws.length<=60000):WF P call c63 [v] h (Ja ws h):=by
 have pD:=hv.bR;have e1:¬(ws.length:Int)=0:=by omega
 have e2:¬(65536:Int)<(ws.length:Int):=by omega
 have cr:=ae.new h (.row (aa 0 [] T.e) 0 50);have xU:=hv.aF cr.next fun b hb=>cr.old b (hv.lt hb)
 have Cc:=fm ws;have hs:Cw (h.t.set h.next (.row (aa 0 [] T.e) 0 50)).get 1 v=some (ws.length,uL ws):=by
  have:=(Own.GS xU (by omega)).MS;rw[Cc]at this;exact this
 simp only[go_sem,seval]at hs;simp only[go_sem,seval,pD,e1,e2,hs];have hap:=vS (e:=50) (es:=1) (bytes:=8) (n:=ws.length) (a:=h.next) (bl:=0) (cells:=aa 0 [] T.e) (h:=⟨h.next+1,h.t.set h.next (.row (aa 0 [] T.e) 0 50)⟩) (src:=uL ws) (by simp[go_sem]) h0 (by omega) (by omega);refine b8 hap ?_
 unfold sR mF;simp only[go_sem,seval];refine⟨⟨by show h.next<=h.next+3;omega,fun b hb=>?_⟩,h.next+2,h.next+1,rfl,⟨by simp only[go_sem,seval];rfl,rfl,?_,by omega⟩,by omega,by omega,by show h.next+2<h.next+3;omega,by show h.next+1<h.next+3;omega⟩
 ·have n1:¬b=h.next:=by omega
  have n2:¬b=h.next+1:=by omega
  have n3:¬b=h.next+2:=by omega
  simp only[go_sem,seval,n1,n2,n3]
 ·have n1:¬h.next+1=h.next+2:=by omega
  simp only[go_sem,seval,n1]
def Jb(h:H)(M L q R Tk Gv Gn:Nat):Prop:=h.t.get R=some (ag [.ptr M 0,.ptr L 0,.sl Tk 0 q 1 (some q),.sl Gv 0 q 1 (some q),.sl Gn 0 q 1 (some q)] 256)/\h.t.get Tk=some (.row (aa 0 (List.replicate q (.bool false)) T.e) q 4)/\h.t.get Gn=some (.row (aa 0 (List.replicate q (.int .i64 0)) T.e) q 3)/\R<h.next/\Tk<h.next/\Gn<h.next
theorem w65{h:H}{M W L:Nat}{ws:List Int}{lg:AV}{c:aj}{p:kG}(hM:M<h.next)(hW:W<h.next)(m:fN h M W ws lg)(hL:we h L c p (aH c))(hw:p.wo=(ws.length:Int))(hn:(aH c).length<=60):
 WF P call c65 [.ptr M 0,.ptr L 0] h fun v h'=>(∃R Tk Gv Gn,v=.aE [.ptr R 0,.int .i64 0]/\Jb h' M L ((aH c).length+1) R Tk Gv Gn/\h.next<=R/\h.next<=Tk/\h.next<=Gn/\Gn≠Tk)/\ae h h':=by
 obtain⟨cv,hv,wv,wl,Qz,gL,o1,oh,ow,⟨ew,-⟩,-,-⟩:=hL.ex;have yg:=oh.bR;have gM:=m.g;have f1:fw .i64 (((aH c).length:Int)+1)=(((aH c).length+1:Nat):Int):=aS (by omega) (by omega);have m1:1*((aH c).length+1)<=281474976710656:=by omega
 have m2:(aH c).length+1<=281474976710656:=by omega
 have m3:8*((aH c).length+1)<=281474976710656:=by omega
 simp only[go_sem,seval,gM,gL,au,cb,hw,yg,f1,fM,dZ,Nat.mul_one,Nat.le_refl,m1,m2,m3,decide_true,Bool.and_self,cond_true];have d1:¬h.next=h.next+1:=by omega
 have d2:¬h.next=h.next+2:=by omega
 have d3:¬h.next=h.next+3:=by omega
 have d4:¬h.next+2=h.next+3:=by omega
 refine⟨⟨_,h.next,h.next+1,h.next+2,rfl,⟨by simp only[go_sem,seval];rfl,by simp[go_sem,d1,d2,d3],by simp[go_sem,d4],by show h.next+3<h.next+4;omega,by show h.next<h.next+4;omega,by show h.next+2<h.next+4;omega⟩,by omega,by omega,by omega,by omega⟩,by show h.next<=h.next+4;omega,fun b hb=>?_⟩;have e1:¬b=h.next:=by omega
 have e2:¬b=h.next+1:=by omega
 have e3:¬b=h.next+2:=by omega
 have e4:¬b=h.next+3:=by omega
 simp only[go_sem,seval,e1,e2,e3,e4]
theorem w66{h:H}{M W L:Nat}{ws:List Int}{lg:AV}{c:aj}{p:kG}(m:fN h M W ws lg)(hL:we h L c p (aH c))(hw:p.wo=(ws.length:Int)):
 WF P call c66 [.ptr M 0,.ptr L 0] h fun v h'=>(∃R,v=.aE [.ptr R 0,.int .i64 0]/\h'.t.get R=some (ag [.ptr M 0,.ptr L 0] 258)/\h.next<=R/\R<h'.next)/\ae h h':=by
 obtain⟨cv,hv,wv,wl,Qz,gL,o1,oh,ow,⟨ew,-⟩,-,-⟩:=hL.ex;have gM:=m.g;simp only[go_sem,seval,gM,gL,au,cb,hw];exact⟨⟨_,rfl,by simp only[go_sem,seval];rfl,Nat.le_refl _,Nat.lt_succ_self _⟩,ae.new h _⟩
theorem aid(P:Program){call:ab}{h:H}{n:Int}(h1:1<=n)(h2:n<=64):WF P call Zf [.int .i64 n] h fun v h'=>v=.aE [.int .i64 (1*n),.int .i64 0]/\h'=h:=by
 have e1:¬n<1:=by omega
 have e2:¬64<n:=by omega
 simp only[go_sem,seval,e1,e2,Int.one_mul]
theorem aie(P:Program){call:ab}{h:H}{n:Int}(h1:1<=n)(h2:n<=64):WF P call Zg [.int .i64 n] h fun v h'=>v=.aE [.int .i64 (2*n),.int .i64 0]/\h'=h:=by
 have e1:¬n<1:=by omega
 have e2:¬64<n:=by omega
 have f1:fw .i64 (2*n)=2*n:=aS (by omega) (by omega);simp only[go_sem,seval,e1,e2,f1]
theorem aif(P:Program){call:ab}{h:H}{n:Int}(h1:1<=n)(h2:n<=16):WF P call Zh [.int .i64 n] h fun v h'=>v=.aE [.int .i64 (4*n),.int .i64 0]/\h'=h:=by
 have e1:¬n<1:=by omega
 have e2:¬16<n:=by omega
 have f1:fw .i64 (4*n)=4*n:=aS (by omega) (by omega);simp only[go_sem,seval,e1,e2,f1]
theorem aih(P:Program){call:ab}(SL:FW call 180 64 1)(Jc:FW call 181 64 2)(SM:FW call 179 16 4){h:H}{c:aj}(hc:mQ c):
 WF P call Zb [.int .u8 c.az,.int .i64 c.aq,.int .i64 c.buckets] h fun v h'=>v=.aE [.int .i64 (bD c),.int .i64 0]/\h'=h:=by
 obtain⟨hs,hc⟩:=hc;have e1:¬c.aq<1:=by omega
 have e2:¬64<c.aq:=by omega
 have k1:=SL h c.aq hs.1 hs.2;have k2:=Jc h c.aq hs.1 hs.2;rw[Int.one_mul]at k1;rcases hc with⟨he,hb⟩|⟨he,hb⟩|⟨he,iD,oU⟩
 ·simp only[go_sem,seval,e1,e2,he,hb,k1,bD]
 ·simp only[go_sem,seval,e1,e2,he,hb,k2,bD]
 ·have k3:=SM h c.buckets iD oU;simp only[go_sem,seval,e1,e2,he,k3,bD]
theorem aii{h:H}{M W:Nat}{ws:List Int}{lg:AV}(m:fN h M W ws lg){base n:Int}(b0:0<=base)(n0:0<=n)(hb:base+n<=(ws.length:Int))(hl:ws.length<=60000):WF P call Zi [.ptr M 0,.int .i64 base,.int .i64 n] h fun v h'=>v=.bool true/\h'=h:=by
 have gM:=m.g;have e1:¬base<0:=by omega
 have e2:¬(ws.length:Int)<n:=by omega
 have f1:fw .i64 ((ws.length:Int) -n)=(ws.length:Int) -n:=aS (by omega) (by omega);have e3:¬(ws.length:Int) -n<base:=by omega
 simp only[go_sem,seval,gM,e1,e2,f1,e3]
def CH(n:Nat)(q:List AV):List AV:=(List.replicate n q).flatten
theorem NI(q:List AV)(w:Nat)(hq:q.length=w)(n i j:Nat)(hi:i<n)(hj:j<w):(rep q (n*w))[i*w+j]?=q[j]?:=by
 have h1:i*w+j<n*w:=by
  have:(i+1)*w<=n*w:=Nat.mul_le_mul_right _ hi;rw[Nat.succ_mul]at this;omega
 unfold rep;rw[List.getElem?_map,List.getElem?_range h1];have h2:(i*w+j)%q.length=j:=by rw[hq,Nat.add_comm,Nat.add_mul_mod_self_right,Nat.mod_eq_of_lt hj]
 simp only[Option.map_some,h2];rw[List.getElem?_eq_getElem (by omega)];simp[List.getD_eq_getElem?_getD,hq,hj]
inductive rE(h:H)(R n:Nat):Prop where
 |a (G N M:Nat) (base:Int) (gR:h.t.get R=some (ag [.int .u8 1,.int .i64 (n:Int),.ptr G 0,.aJ,.aJ] 263)) (gG:h.t.get G=some (ag [.ptr M 0,.int .i64 base,.sl N 0 n 3 (some n)] 324)) (gN:h.t.get N=some (.row (aa 0 (rep [.int .u64 0,.bool false,.bool false] (n*3)) T.e) (n*3) 403)) (lR:R<h.next) (lG:G<h.next) (lN:N<h.next)
 |b (G N M:Nat) (base:Int) (gR:h.t.get R=some (ag [.int .u8 2,.int .i64 (n:Int),.aJ,.ptr G 0,.aJ] 263)) (gG:h.t.get G=some (ag [.ptr M 0,.int .i64 base,.sl N 0 n 3 (some n)] 325)) (gN:h.t.get N=some (.row (aa 0 (rep [.int .u64 0,.bool false,.bool false] (n*3)) T.e) (n*3) 403)) (lR:R<h.next) (lG:G<h.next) (lN:N<h.next)
 |c (G M:Nat) (base nb:Int) (ty:TypeId) (gR:h.t.get R=some (ag [.int .u8 3,.int .i64 (n:Int),.aJ,.aJ,.ptr G 0] 263)) (gG:h.t.get G=some (.row (aa 0 ([.ptr M 0,.int .i64 base,.int .i64 nb]++CH 64 [.bool false,.bool false,.int .i64 0,.int .u64 0]) T.e) 259 ty)) (CI:ty=330) (lR:R<h.next) (lG:G<h.next)
def GZ(M n ty:Nat)(base:Int)(h:H)(v:AV)(h':H):Prop:=ae h h'/\∃G N,v=.aE [.ptr G 0,.int .i64 0]/\h'.t.get G=some (ag [.ptr M 0,.int .i64 base,.sl N 0 n 3 (some n)] ty)/\h'.t.get N=some (.row (aa 0 (rep [.int .u64 0,.bool false,.bool false] (n*3)) T.e) (n*3) 403)/\G<h'.next/\N<h'.next/\h.next<=G/\h.next<=N
def Jd(call:ab):Prop:=∀h M W (ws:List Int) lg (base n:Int),fN h M W ws lg->0<=base->0<=n->base+n<=(ws.length:Int)->ws.length<=60000->call 182 [.ptr M 0,.int .i64 base,.int .i64 n] h=some (.bool true,h)
theorem aij(SL:FW call 180 64 1)(Je:Jd call){h:H}{M W:Nat}{ws:List Int}{lg:AV}(m:fN h M W ws lg){n:Nat}(h1:1<=n)(h2:n<=64){base:Int}(b0:0<=base)(b1:base+(n:Int)<=(ws.length:Int))(b2:ws.length<=60000):
 WF P call Zc [.ptr M 0,.int .i64 base,.int .i64 (n:Int)] h (GZ M n 324 base h):=by
 have k1:=SL h (n:Int) (by omega) (by omega);rw[Int.one_mul]at k1;have k2:=Je h M W ws lg base (n:Int) m b0 (by omega) b1 b2;have m1:16*n<=281474976710656:=by omega
 have m2:n<=281474976710656:=by omega
 simp only[go_sem,seval,k1,k2,fM,Nat.le_refl,m1,m2,decide_true,Bool.and_self,cond_true];refine⟨⟨by show h.next<=h.next+2;omega,fun b hb=>?_⟩,_,_,rfl,by simp only[go_sem,seval];rfl,?_,by show h.next+1<h.next+2;omega,by show h.next<h.next+2;omega,by omega,by omega⟩
 ·have n1:¬b=h.next:=by omega
  have n2:¬b=h.next+1:=by omega
  simp only[go_sem,seval,n1,n2]
 ·have n1:¬h.next=h.next+1:=by omega
  simp only[go_sem,seval,n1]
theorem aik(Jc:FW call 181 64 2)(Je:Jd call){h:H}{M W:Nat}{ws:List Int}{lg:AV}(m:fN h M W ws lg){n:Nat}(h1:1<=n)(h2:n<=64){base:Int}(b0:0<=base)(b1:base+2*(n:Int)<=(ws.length:Int))(b2:ws.length<=60000):
 WF P call Zd [.ptr M 0,.int .i64 base,.int .i64 (n:Int)] h (GZ M n 325 base h):=by
 have k1:=Jc h (n:Int) (by omega) (by omega);have k2:=Je h M W ws lg base (2*(n:Int)) m b0 (by omega) b1 b2;have m1:16*n<=281474976710656:=by omega
 have m2:n<=281474976710656:=by omega
 simp only[go_sem,seval,k1,k2,fM,Nat.le_refl,m1,m2,decide_true,Bool.and_self,cond_true];refine⟨⟨by show h.next<=h.next+2;omega,fun b hb=>?_⟩,_,_,rfl,by simp only[go_sem,seval];rfl,?_,by show h.next+1<h.next+2;omega,by show h.next<h.next+2;omega,by omega,by omega⟩
 ·have n1:¬b=h.next:=by omega
  have n2:¬b=h.next+1:=by omega
  simp only[go_sem,seval,n1,n2]
 ·have n1:¬h.next=h.next+1:=by omega
  simp only[go_sem,seval,n1]
def Jf(M:Nat)(base nb:Int)(h:H)(v:AV)(h':H):Prop:=ae h h'/\∃G,v=.aE [.ptr G 0,.int .i64 0]/\h'.t.get G=some (.row (aa 0 ([.ptr M 0,.int .i64 base,.int .i64 nb]++CH 64 [.bool false,.bool false,.int .i64 0,.int .u64 0]) T.e) 259 330)/\G<h'.next/\h.next<=G
set_option maxRecDepth 100000 in
theorem ail(SM:FW call 179 16 4)(Je:Jd call){h:H}{M W:Nat}{ws:List Int}{lg:AV}(m:fN h M W ws lg){n:Int}(h1:1<=n)(h2:n<=16){base:Int}(b0:0<=base)(b1:base+4*n<=(ws.length:Int))(b2:ws.length<=60000):
 WF P call Ze [.ptr M 0,.int .i64 base,.int .i64 n] h (Jf M base n h):=by
 have k1:=SM h n (by omega) (by omega);have k2:=Je h M W ws lg base (4*n) m b0 (by omega) b1 b2;simp only[go_sem,seval,k1,k2];refine⟨ae.new h _,_,rfl,by simp only[go_sem,seval];rfl,Nat.lt_succ_self _,Nat.le_refl _⟩
end
end Go.Proofs.YtgkjlklfjbljeaaGreat.CQ
