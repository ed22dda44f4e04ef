/-
  What functions of the program compute. Conditions: those of each theorem.
-/
import Derived.Test.YtgkjlklfjbljeaaGreatCwC
set_option linter.all false
namespace Go.Proofs.YtgkjlklfjbljeaaGreat.CQ
open Go.Proofs.YtgkjlklfjbljeaaGreat.Eo
noncomputable section
variable(P:Program)[PT P]{call:ab}
@[go_sem]def ID:CF:=⟨1,(Sq [z 1 27 0,p 2,b 3 0] (Sq [S 8 16 1,q 9 62 8,a 7 9,o 10 7 0,o 11 7 1,a 4 10,a 5 11] (Qq (Sq [a 12 5,A 13 41 12 0] (Kq 13 [a 14 5,p 2,a 3 14] .skip)) (Qq (.cn ⟨[([g 0 4,R 1 1 1,k 2 16 1,zg 3 17 2 2 3 1 8 0,g 4 4,n 5 19 4,m 6 20 5 26,k 7 21 6,qK 8 22 7,qR 9 23 8 3 1,zg 10 24 9 9 3 1 8 0,g 11 4,n 12 26 11,m 13 27 12 26,k 14 28 13,qK 15 29 14,qR 16 30 15 3 1,zg 17 31 16 16 3 1 8 0,⟨18,[(15,some 0),(18,some 3),(25,some 10),(32,some 17)],none,.p (.build [.aJ,.aJ,.aJ,.aJ,.aJ,aN,bO,.ax,.ax,.ax,.ax,.ax] [(0,1,.t 15),(9,1,.t 18),(10,1,.t 25),(11,1,.t 32)])⟩,qY 19 33 18 95,t 20 34 19],none)],[(0,15),(1,16),(2,17),(3,18),(4,19),(5,20),(6,21),(7,22),(8,23),(9,24),(10,25),(11,26),(12,27),(13,28),(14,29),(15,30),(16,31),(17,32),(18,33),(19,34),(20,6)],[(⟨2,[(16,(some 1))],none,.r (.ld none (.t 16))⟩,[0]),(⟨7,[(21,(some 6))],none,.r (.ld none (.t 21))⟩,[0]),(⟨14,[(28,(some 13))],none,.r (.ld none (.t 28))⟩,[0])]⟩) (Sq [a 36 6,a 37 4,q 38 64 37,q 39 63 38,a 35 39,o 40 35 0,o 41 35 1,j 42 36,d 43 1 42,s 1 43 40] (Sq [a 45 6,a 46 6,j 47 46,d 48 1 47,i 49 48,a 50 4,M 51 65 49 50,a 44 51,o 52 44 0,o 53 44 1,j 54 45,d 55 2 54,s 1 55 52] (Sq [a 57 6,a 58 6,j 59 58,d 60 1 59,i 61 60,a 62 4,M 63 66 61 62,a 56 63,o 64 56 0,o 65 56 1,j 66 57,d 67 3 66,s 1 67 64] (Qq (.cn ⟨[([g 0 6,g 1 6,n 2 70 1,m 3 71 2 1,k 4 72 3,R 5 1 2,k 6 74 5,g 7 4,n 8 76 7,m 9 77 8 16,m 10 78 9 1,k 11 79 10,R 12 1 1,k 13 81 12,R 14 1 3,k 15 83 14],some (qU 16 73 4 75 6 80 11 82 13 84 15 67)),([t 17 85 16,B 18 68 17 0,B 19 68 17 1,n 20 69 0,m 21 88 20 4],some (V 22 89 21 86 18 1)),([],none)],[(0,69),(1,70),(2,71),(3,72),(4,73),(5,74),(6,75),(7,76),(8,77),(9,78),(10,79),(11,80),(12,81),(13,82),(14,83),(15,84),(16,85),(17,68),(18,86),(19,87),(20,88),(21,89)],[]⟩) (Rq [a 90 6,a 2 90,b 3 0]))))))))),[.tmp 2,.tmp 3]⟩
theorem rE.aF{h h':H}{R n:Nat}(p:rE h R n)(hn:h.next<=h'.next)(k:∀{b cells len e},b<h.next->h.t.get b=some (.row cells len e)->e≠188->e≠50->e≠95->h'.t.get b=some (.row cells len e))(RJ:∀G M base nb ty,h.t.get G=some (.row (aa 0 ([.ptr M 0,.int .i64 base,.int .i64 nb]++CH 64 [.bool false,.bool false,.int .i64 0,.int .u64 0]) T.e) 259 ty)->ty=330->G<h.next->h'.t.get G=some (.row (aa 0 ([.ptr M 0,.int .i64 base,.int .i64 nb]++CH 64 [.bool false,.bool false,.int .i64 0,.int .u64 0]) T.e) 259 ty)):rE h' R n:=by
 have l:∀{a},a<h.next->a<h'.next:=fun ha=>Nat.lt_of_lt_of_le ha hn
 cases p with
 |a G N M base gR gG gN lR lG lN=>exact .a G N M base (k lR gR (by decide) (by decide) (by decide)) (k lG gG (by decide) (by decide) (by decide)) (k lN gN (by decide) (by decide) (by decide)) (l lR) (l lG) (l lN)
 |b G N M base gR gG gN lR lG lN=>exact .b G N M base (k lR gR (by decide) (by decide) (by decide)) (k lG gG (by decide) (by decide) (by decide)) (k lN gN (by decide) (by decide) (by decide)) (l lR) (l lG) (l lN)
 |c G M base nb ty gR gG CI lR lG=>exact .c G M base nb ty (k lR gR (by decide) (by decide) (by decide)) (RJ G M base nb ty gG CI lG) CI (l lR) (l lG)
theorem rE.off{h h':H}{M W R n:Nat}{ws:List Int}{lg:AV}(p:rE h R n)(m:fN h M W ws lg)(s:CE M W h h'):rE h' R n:=by
 have gM:=m.g;have gW:=m.w;have k0:∀{b cells len e},b<h.next->h.t.get b=some (.row cells len e)->e≠188->e≠50->h'.t.get b=some (.row cells len e):=fun{b cells len e} hb g n1 n2=>by
  refine(s.old b hb (fun e=>?_) (fun e=>?_)).trans g
  ·subst e;rw[gM]at g;simp[ag]at g;exact n1 g.2.2.symm
  ·subst e;rw[gW]at g;simp[ag]at g;exact n2 g.2.2.symm
 exact p.aF s.next (fun hb g n1 n2 _=>k0 hb g n1 n2) fun G M base nb ty g CI lG=>k0 lG g (by rw[CI];decide) (by rw[CI];decide)
inductive mR(lo:Nat)(h:H)(M:Nat)(base:Int)(R n:Nat)(c:aj):Prop where
 |full (G N:Nat) (he:c.az=1) (gR:h.t.get R=some (ag [.int .u8 1,.int .i64 (n:Int),.ptr G 0,.aJ,.aJ] 263)) (gG:h.t.get G=some (ag [.ptr M 0,.int .i64 base,.sl N 0 n 3 (some n)] 324)) (gN:h.t.get N=some (.row (aa 0 (rep [.int .u64 0,.bool false,.bool false] (n*3)) T.e) (n*3) 403)) (lR:R<h.next) (lG:G<h.next) (lN:N<h.next) (oR:lo<=R) (oG:lo<=G) (oN:lo<=N)
 |each (G N:Nat) (he:c.az=2) (gR:h.t.get R=some (ag [.int .u8 2,.int .i64 (n:Int),.aJ,.ptr G 0,.aJ] 263)) (gG:h.t.get G=some (ag [.ptr M 0,.int .i64 base,.sl N 0 n 3 (some n)] 325)) (gN:h.t.get N=some (.row (aa 0 (rep [.int .u64 0,.bool false,.bool false] (n*3)) T.e) (n*3) 403)) (lR:R<h.next) (lG:G<h.next) (lN:N<h.next) (oR:lo<=R) (oG:lo<=G) (oN:lo<=N)
 |gate (G:Nat) (he:c.az=3) (hb:1<=c.buckets/\c.buckets<=16) (gR:h.t.get R=some (ag [.int .u8 3,.int .i64 (n:Int),.aJ,.aJ,.ptr G 0] 263)) (gG:h.t.get G=some (.row (aa 0 ([.ptr M 0,.int .i64 base,.int .i64 c.buckets]++CH 64 [.bool false,.bool false,.int .i64 0,.int .u64 0]) T.e) 259 330)) (lR:R<h.next) (lG:G<h.next) (oR:lo<=R) (oG:lo<=G)
theorem mR.aF{lo:Nat}{h h':H}{M:Nat}{base:Int}{R n:Nat}{c:aj}(p:mR lo h M base R n c)(hn:h.next<=h'.next)(k:∀b,lo<=b->b<h.next->h'.t.get b=h.t.get b):mR lo h' M base R n c:=by
 have l:∀{a},a<h.next->a<h'.next:=fun ha=>Nat.lt_of_lt_of_le ha hn
 cases p with
 |full G N he gR gG gN lR lG lN oR oG oN=>exact .full G N he ((k _ oR lR).trans gR) ((k _ oG lG).trans gG) ((k _ oN lN).trans gN) (l lR) (l lG) (l lN) oR oG oN
 |each G N he gR gG gN lR lG lN oR oG oN=>exact .each G N he ((k _ oR lR).trans gR) ((k _ oG lG).trans gG) ((k _ oN lN).trans gN) (l lR) (l lG) (l lN) oR oG oN
 |gate G he hb gR gG lR lG oR oG=>exact .gate G he hb ((k _ oR lR).trans gR) ((k _ oG lG).trans gG) (l lR) (l lG) oR oG
theorem mR.mono{lo Zj:Nat}{h:H}{M:Nat}{base:Int}{R n:Nat}{c:aj}(p:mR lo h M base R n c)(hl:Zj<=lo):mR Zj h M base R n c:=by
 cases p with
 |full G N he gR gG gN lR lG lN oR oG oN=>exact .full G N he gR gG gN lR lG lN (by omega) (by omega) (by omega)
 |each G N he gR gG gN lR lG lN oR oG oN=>exact .each G N he gR gG gN lR lG lN (by omega) (by omega) (by omega)
 |gate G he hb gR gG lR lG oR oG=>exact .gate G he hb gR gG lR lG (by omega) (by omega)
def QC(M:Nat)(base:Int)(c:aj)(n:Nat)(h:H)(v:AV)(h':H):Prop:=ae h h'/\∃R,v=.aE [.ptr R 0,.int .i64 0]/\rE h' R n/\mR h.next h' M base R n c
theorem w67(h75:∀h c,mQ c->call 132 [.int .u8 c.az,.int .i64 c.aq,.int .i64 c.buckets] h=some (.aE [.int .i64 (bD c),.int .i64 0],h))
 (h76:∀h M W ws lg n base,fN h M W ws lg->1<=n->n<=64->0<=base->base+((n:Nat):Int)<=((ws:List Int).length:Int)->ws.length<=60000->∃v h',call 133 [.ptr M 0,.int .i64 base,.int .i64 (n:Int)] h=some (v,h')/\GZ M n 324 base h v h')
 (h77:∀h M W ws lg n base,fN h M W ws lg->1<=n->n<=64->0<=base->base+2*((n:Nat):Int)<=((ws:List Int).length:Int)->ws.length<=60000->∃v h',call 134 [.ptr M 0,.int .i64 base,.int .i64 (n:Int)] h=some (v,h')/\GZ M n 325 base h v h')
 (h78:∀h M W ws lg n base,fN h M W ws lg->1<=n->n<=16->0<=base->base+4*n<=((ws:List Int).length:Int)->ws.length<=60000->∃v h',call 135 [.ptr M 0,.int .i64 base,.int .i64 n] h=some (v,h')/\Jf M base n h v h')
 {h:H} {M W:Nat} {ws:List Int} {lg:AV} (hm:fN h M W ws lg) (hM:M<h.next) (hW:W<h.next) {c:aj} (hc:mQ c) {base:Int} (b0:0<=base) (b1:base+bD c<=(ws.length:Int)) (b2:ws.length<=60000) {n:Nat} (hn:c.aq=(n:Int)):
 WF P call c67 [.ptr M 0,.int .u8 c.az,.int .i64 base,.int .i64 c.aq,.int .i64 c.buckets] h (QC M base c n h):=by
 have k75:=h75 h c hc;obtain⟨hs,hc⟩:=hc;have cr:∀x,ae h ⟨h.next+1,h.t.set h.next x⟩:=fun x=>ae.new h x
 have fin:∀{x h1 y},ae ⟨h.next+1,h.t.set h.next x⟩ h1->ae h ⟨h1.next,h1.t.set h.next y⟩:=fun{x h1 y} s=>⟨by have:=s.next;show h.next<=h1.next;have h2:h.next+1<=h1.next:=this;omega,fun b hb=>by
  have e1:¬b=h.next:=by omega
  have:=s.old b (by show b<h.next+1;omega);simp only[go_sem,seval,e1]at this;simp only[go_sem,seval,e1,this]⟩
 rcases hc with⟨he,hb⟩|⟨he,hb⟩|⟨he,iD,oU⟩
 ·have hN:bD c=(n:Int):=by unfold bD;rw[if_pos he,hn]
  rw[he,hb,hn,hN]at k75;rw[he,hb,hn];simp only[go_sem,seval,k75];refine af (h76 _ M W ws lg n base (hm.step hM hW (cr _)) (by omega) (by omega) b0 (by omega) b2) fun v1 h1 p1=>?_
  obtain⟨bC,G,N,rfl,gG,gN,lG,lN,oG,oN⟩:=p1;replace oG:h.next+1<=G:=oG;replace oN:h.next+1<=N:=oN;have eW:h.next+1<=h1.next:=bC.next;have gR:=bC.old h.next (Nat.lt_succ_self _);simp only[go_sem,seval]at gR;simp only[go_sem,seval,gR]
  by_cases hG:G=h.next
  ·rw[hG,gR]at gG;simp at gG
  by_cases AH:N=h.next
  ·rw[AH,gR]at gN;simp at gN
  exact⟨fin bC,h.next,rfl,.a G N M base (by simp[go_sem]) (by simp[go_sem,hG,gG]) (by simp[go_sem,AH,gN]) (by show h.next<h1.next;omega) lG lN,.full G N he (by simp only[go_sem,seval];rfl) (by simp[go_sem,hG,gG]) (by simp[go_sem,AH,gN]) (by show h.next<h1.next;omega) lG lN (Nat.le_refl _) (by omega) (by omega)⟩
 ·have hN:bD c=2*(n:Int):=by unfold bD;rw[if_neg (by omega),if_pos he,hn]
  rw[he,hb,hn,hN]at k75;rw[he,hb,hn];simp only[go_sem,seval,k75];refine af (h77 _ M W ws lg n base (hm.step hM hW (cr _)) (by omega) (by omega) b0 (by omega) b2) fun v1 h1 p1=>?_
  obtain⟨bC,G,N,rfl,gG,gN,lG,lN,oG,oN⟩:=p1;replace oG:h.next+1<=G:=oG;replace oN:h.next+1<=N:=oN;have eW:h.next+1<=h1.next:=bC.next;have gR:=bC.old h.next (Nat.lt_succ_self _);simp only[go_sem,seval]at gR;simp only[go_sem,seval,gR]
  by_cases hG:G=h.next
  ·rw[hG,gR]at gG;simp at gG
  by_cases AH:N=h.next
  ·rw[AH,gR]at gN;simp at gN
  exact⟨fin bC,h.next,rfl,.b G N M base (by simp[go_sem]) (by simp[go_sem,hG,gG]) (by simp[go_sem,AH,gN]) (by show h.next<h1.next;omega) lG lN,.each G N he (by simp only[go_sem,seval];rfl) (by simp[go_sem,hG,gG]) (by simp[go_sem,AH,gN]) (by show h.next<h1.next;omega) lG lN (Nat.le_refl _) (by omega) (by omega)⟩
 ·have hN:bD c=4*c.buckets:=by unfold bD;rw[if_neg (by omega),if_neg (by omega)]
  rw[he,hn,hN]at k75;rw[he,hn];simp only[go_sem,seval,k75];refine af (h78 _ M W ws lg c.buckets base (hm.step hM hW (cr _)) iD oU b0 (by omega) b2) fun v1 h1 p1=>?_
  obtain⟨bC,G,rfl,gG,lG,oG⟩:=p1;replace oG:h.next+1<=G:=oG;have eW:h.next+1<=h1.next:=bC.next;have gR:=bC.old h.next (Nat.lt_succ_self _);simp only[go_sem,seval]at gR;simp only[go_sem,seval,gR]
  by_cases hG:G=h.next
  ·rw[hG,gR]at gG;have e1:=congrArg (fun o:Option AO=>match o with|some (.row _ n _)=>n|_=>0) gG
   simp at e1
  exact⟨fin bC,h.next,rfl,.c G M base c.buckets 330 (by simp[go_sem]) (by simp only[go_sem,seval,hG];exact gG) rfl (by show h.next<h1.next;omega) lG,.gate G he ⟨iD,oU⟩ (by simp only[go_sem,seval];rfl) (by simp only[go_sem,seval,hG];exact gG) (by show h.next<h1.next;omega) lG (Nat.le_refl _) (by omega)⟩
structure SN(h:H)(B:Nat)(c:aj)(p:kG)(M W R:Nat):Prop where
 ex:∃L P T vv lv cv,h.t.get B=some (ag [.ptr L 0,.ptr M 0,.ptr P 0,.ptr T 0,.ptr R 0,.int .i64 0,.bool false,.ax,.ax,vv,lv,cv] 95)/\we h L c p (aH c)
 pr:∃n:Nat,c.aq=(n:Int)/\rE h R n
 lt:B<h.next
structure StB(h0:Nat)(h:H)(c:aj)(B L M Po To R W V K C Tk Gv Gn n q:Nat)(cv hv wv:AV):Prop where
 gB:h.t.get B=some (ag [.ptr L 0,.ptr M 0,.ptr Po 0,.ptr To 0,.ptr R 0,.int .i64 0,.bool false,.ax,.ax,.sl V 0 n 1 (some n),.sl K 0 q 1 (some q),.sl C 0 q 1 (some q)] 95)
 gV:h.t.get V=some (.row (aa 0 (List.replicate n (.int .i64 0)) T.e) n 3)
 gK:h.t.get K=some (.row (aa 0 (List.replicate q (.int .i64 0)) T.e) q 3)
 gC:h.t.get C=some (.row (aa 0 (List.replicate q (.int .i64 0)) T.e) q 3)
 gL:h.t.get L=some (ag (au c cv++(cb (aA c)++[hv,wv])) 87)
 rd:cm none 1 h cv (uL c.aI)
 lo:∃lz,(∀b,own cv=some b->h0<=b/\b<lz)/\mR lz h M (aA c).en R n c/\L<lz/\lz<=h.next/\(∀b,b=B\/b=V\/b=K\/b=C\/b=M\/b=W\/b=Po\/b=Tk\/b=Gn->lz<=b)/\V≠K/\V≠C/\V≠Gn
 po:Jb h M L q Po Tk Gv Gn
 sl:c.aq=(n:Int)
 hq:q=(aH c).length+1
 oB:h0<=B/\B<h.next
 oL:h0<=L/\L<h.next
 oV:h0<=V/\V<h.next
 oK:h0<=K/\K<h.next
 oC:h0<=C/\C<h.next
 oP:h0<=Po/\h0<=Tk/\h0<=Gn
 gT:h.t.get To=some (ag [.ptr M 0,.ptr L 0] 258)/\Po<To/\To<h.next
 oh:Own 1 3 h hv (aH c).length (iL (aH c))
 ow:∃wl:Nat,Own 3 296 h wv wl (I1 (dF c (aH c)))
 lw:∃lz,L<lz/\lz<=B/\lz<=V/\lz<=K/\lz<=C/\lz<=M/\lz<=W/\lz<=Po/\lz<=Tk/\lz<=Gn/\lz<=To/\∀a,own cv=some a\/own hv=some a\/own wv=some a->h0<=a/\a<lz/\a≠L
 ne:K≠C/\K≠Gn/\C≠Gn
structure Jg(c:aj)(h:H)(v:AV)(h':H):Prop where
 st:ae h h'
 ex:∃B p M W R ws,v=.aE [.ptr B 0,.int .i64 0]/\p.ow=0/\(∃w:Nat,p.wo=(w:Int)/\Zero w c.aq ws/\GY c w ws)/\c.aq<p.wo/\ws.length<=5000/\fN h' M W ws .ax/\M<h'.next/\W<h'.next/\h.next<=M/\h.next<=W/\(∀h2,CE M W h' h2->SN h2 B c p M W R)/\p=aA c/\ye c p/\∃L Po To V K C Tk Gv Gn n q cv hv wv,StB h.next h' c B L M Po To R W V K C Tk Gv Gn n q cv hv wv
def F62(call:ab):Prop:=∀h c v,cm none 1 h v (uL c.aI)->(∀a,own v=some a->a<h.next)->(∀x∈c.aI,kB x)->fU c->(aH c).length<=60->∃v' h',call 62 [.agg (au c v)] h=some (v',h')/\I8 c h v' h'
def F64(call:ab):Prop:=∀h L c p (W:Nat),we h L c p (aH c)->ye c p->0<=c.aq->(aH c).length<=60->p.wo=(W:Int)->0<W->∃v h',call 64 [.ptr L 0] h=some (v,h')/\Fm W c.aq (GY c W) h v h'
def F63(call:ab):Prop:=∀h v (ws:List Int),Own 1 50 h v ws.length (uL ws)->0<ws.length->ws.length<=60000->∃v' h',call 63 [v] h=some (v',h')/\Ja ws h v' h'
def F65(call:ab):Prop:=∀h M W L (ws:List Int) lg c p,M<h.next->W<h.next->fN h M W ws lg->we h L c p (aH c)->p.wo=(ws.length:Int)->(aH c).length<=60->∃v h',call 65 [.ptr M 0,.ptr L 0] h=some (v,h')/\((∃R Tk Gv Gn,v=.aE [.ptr R 0,.int .i64 0]/\Jb h' M L ((aH c).length+1) R Tk Gv Gn/\h.next<=R/\h.next<=Tk/\h.next<=Gn/\Gn≠Tk)/\ae h h')
def F66(call:ab):Prop:=∀h M W L (ws:List Int) lg c p,fN h M W ws lg->we h L c p (aH c)->p.wo=(ws.length:Int)->∃v h',call 66 [.ptr M 0,.ptr L 0] h=some (v,h')/\(∃R,v=.aE [.ptr R 0,.int .i64 0]/\h'.t.get R=some (ag [.ptr M 0,.ptr L 0] 258)/\h.next<=R/\R<h'.next)/\ae h h'
def F67(call:ab):Prop:=∀h M W (ws:List Int) lg c base (n:Nat),fN h M W ws lg->M<h.next->W<h.next->mQ c->0<=base->base+bD c<=(ws.length:Int)->ws.length<=60000->c.aq=(n:Int)->∃v h',call 67 [.ptr M 0,.int .u8 c.az,.int .i64 base,.int .i64 c.aq,.int .i64 c.buckets] h=some (v,h')/\QC M base c n h v h'
set_option maxHeartbeats 1000000 in
theorem w25(h27:F62 call)(h29:F64 call)(h28:F63 call)(h30:F65 call)(h31:F66 call)(h32:F67 call)
 {h:H} {c:aj} {v:AV} (hv:cm none 1 h v (uL c.aI)) (dE:∀a,own v=some a->a<h.next) (fH:∀x∈c.aI,kB x) (hc:fU c) (hn:(aH c).length<=60):WF P call ID [.agg (au c v)] h (Jg c h):=by
 have Ss:=hc.Yq;have mL:=Ss.1;have ov:=hv.one;have cr:=ae.new h (.row (aa 0 (au c v) T.e) 16 27);simp only[go_sem,seval,ov,au];refine af (h27 _ c v (hv.aF fun b hb=>cr.old b (dE b hb)) (fun a ha=>Nat.lt_succ_of_lt (dE a ha)) fH hc hn) fun v1 h1 p1=>?_
 obtain⟨⟨L,p,rfl,hL0,hp,hL⟩,bC⟩:=p1;have g1:=bC.old h.next (Nat.lt_succ_self _);simp only[go_sem,seval,au]at g1;have fC:=cr.trans bC;have eW:h.next<h1.next:=bC.next;obtain⟨w,hw⟩:∃w:Nat,p.wo=(w:Int):=⟨p.wo.toNat,by have:=hp.po;omega⟩;have hp5:=hp.wo;have CG:0<w:=by have:=hp.po;omega
 obtain⟨cv,iU,wv,wl,Qz,gL,o1,oh,ow,⟨ew,ewc⟩,rdc,NJ⟩:=id hL.ex;have loc:=fun b hb=>NJ b (.inl hb)
 have yg:=oh.bR;have df:=hL.lt;obtain⟨n,Fo⟩:∃n:Nat,c.aq=(n:Int):=⟨c.aq.toNat,by omega⟩;have f1:fw .i64 (((aH c).length:Int)+1)=(((aH c).length+1:Nat):Int):=aS (by omega) (by omega);have m1:8*n<=281474976710656:=by omega
 have m2:n<=281474976710656:=by omega
 have m3:8*((aH c).length+1)<=281474976710656:=by omega
 have m4:(aH c).length+1<=281474976710656:=by omega
 have c0:¬h.next=h1.next:=by omega
 have l0:¬L=h1.next:=by omega
 have l1:¬L=h1.next+1:=by omega
 have l2:¬L=h1.next+2:=by omega
 have l3:¬L=h1.next+3:=by omega
 have c1:¬h.next=h1.next+1:=by omega
 have c2:¬h.next=h1.next+2:=by omega
 have mE:¬h.next=h1.next+3:=by omega
 simp only[go_sem,seval,g1,gL,au,cb,yg,f1,Fo,fM,dZ,Nat.mul_one,Nat.le_refl,m1,m2,m3,m4,decide_true,Bool.and_self,cond_true,c0,c1,c2,mE,l0,l1,l2,l3];obtain⟨B,hB⟩:∃B,B=h1.next+3:=⟨_,rfl⟩;have cF:∀x y z u k,ae h1 ⟨h1.next+(3+k),(((h1.t.set h1.next x).set (h1.next+1) y).set (h1.next+2) z).set (h1.next+3) u⟩:=fun x y z u k=>⟨by show h1.next<=h1.next+(3+k);omega,fun b hb=>by
  have e1:¬b=h1.next:=by omega
  have e2:¬b=h1.next+1:=by omega
  have e3:¬b=h1.next+2:=by omega
  have e4:¬b=h1.next+3:=by omega
  simp only[go_sem,seval,e1,e2,e3,e4]⟩
 refine af (h29 _ L c p w (hL.step (cF _ _ _ _ 1)) hp (by omega) hn hw CG) fun v3 h3 p3=>?_
 obtain⟨⟨ws,hws,hz,Xl⟩,agX,fW⟩:=p3;have YV:=hz.len;simp only[go_sem,seval];refine af (h28 h3 v3 ws hws (by omega) (by omega)) fun v4 h4 p4=>?_
 obtain⟨yG,M,W,rfl,m4',hM3,hW3,hM4,hW4⟩:=p4;have Mj:h1.next+4<=h3.next:=fW.next;have Qo:=yG.next;have vX:=fW.trans yG;have AE:=vX.old B (by rw[hB];show h1.next+3<h1.next+4;omega);have YW:=vX.old h.next (by show h.next<h1.next+4;omega);have yh:ae h1 h4:=(cF _ _ _ _ 1).trans vX;have CB:¬h.next=B:=by omega
 have BM:¬B=M:=by omega
 have BW:¬B=W:=by omega
 have MB:¬M=B:=by omega
 have WB:¬W=B:=by omega
 simp only[go_sem,seval,hB]at AE;simp only[go_sem,seval,c0,c1,c2,mE,g1]at YW;rw[←hB]at AE;simp only[←hB];simp only[go_sem,seval,AE];have pG:∀(h5:H) x,fN h5 M W ws .ax->fN ⟨h5.next,h5.t.set B x⟩ M W ws .ax:=fun h5 x m=>⟨by simp only[go_sem,seval,MB];exact m.g,rfl,by simp only[go_sem,seval,WB];exact m.w,m.ne⟩
 have Jh:∀(h5:H) x,ae h1 h5->ae h1 ⟨h5.next,h5.t.set B x⟩:=fun h5 x s=>⟨s.next,fun b hb=>by
  have e3:¬b=B:=by omega
  simp only[go_sem,seval,e3];exact s.old b hb⟩
 have YX:p.wo=(ws.length:Int):=by omega
 refine af (h30 _ M W L ws .ax c p hM4 hW4 (pG h4 _ m4') (hL.step (Jh h4 _ yh)) YX hn) fun v6 h6 p6=>?_
 obtain⟨⟨Po,Tk,Gv,Gn,rfl,hPo,oPo,oTk,oGn,nGT⟩,AJ⟩:=p6;have nx6:h4.next<=h6.next:=AJ.next;have Su:=AJ.old B (by show B<h4.next;omega);simp only[go_sem,seval]at Su;simp only[go_sem,seval,Su];have m6:=(pG h4 _ m4').step hM4 hW4 AJ;have IZ:=(Jh h4 _ yh).trans AJ;have hM6:M<h6.next:=by omega
 have hW6:W<h6.next:=by omega
 refine af (h31 _ M W L ws .ax c p (pG h6 _ m6) (hL.step (Jh h6 _ IZ)) YX) fun v7 h7 p7=>?_
 obtain⟨⟨To,rfl,Xm,YY,YZ⟩,D5⟩:=p7;have ag2:h6.next<=To:=YY;have nx7:h6.next<=h7.next:=D5.next;have Qu:=D5.old B (by show B<h6.next;omega);simp only[go_sem,seval]at Qu;have m7:=(pG h6 _ m6).step hM6 hW6 D5;have I0:=(Jh h6 _ IZ).trans D5;have hM7:M<h7.next:=by omega
 have hW7:W<h7.next:=by omega
 have Qv:h7.t.get h.next=h4.t.get h.next:=by
  have k1:=D5.old h.next (by show h.next<h6.next;omega);have k2:=AJ.old h.next (by show h.next<h4.next;omega);simp only[go_sem,seval,CB]at k1 k2;rw[k1,k2]
 rw[YW]at Qv;have LB:¬L=B:=by omega
 have gL7:h7.t.get L=h1.t.get L:=I0.old L df;rw[gL]at gL7;simp only[go_sem,seval,Qu,Qv,gL7,au,cb,CB,LB];have hen:=hp.en;have ag4:=hp.Yq;have hE:=tR hc;refine af (h32 _ M W ws .ax c p.en n (pG h7 _ m7) hM7 hW7 Ss (by omega) (by omega) (by omega) Fo) fun v9 h9 p9=>?_
 obtain⟨yI,R,rfl,hR,hX⟩:=p9;have NA:h7.next<=h9.next:=yI.next;have NC:=yI.old B (by show B<h7.next;omega);simp only[go_sem,seval]at NC;have m9:=(pG h7 _ m7).step hM7 hW7 yI;have vY:=(Jh h7 _ I0).trans yI;simp only[go_sem,seval,NC,NA,Qu,Qv,gL7,CB,LB,au,cb];have Y3:∀x,rE ⟨h9.next,h9.t.set B (.row x 12 95)⟩ R n:=fun x=>by
  have k:∀{b cells len e},h9.t.get b=some (.row cells len e)->e≠95->(h9.t.set B (.row x 12 95)).get b=some (.row cells len e):=fun{b cells len e} g n1=>by
   by_cases e3:b=B
   ·subst e3;rw[NC]at g;simp at g;exact absurd g.2.2.symm n1
   ·simp only[go_sem,seval,e3];exact g
  refine hR.aF (Nat.le_refl _) (fun hb g _ _ n3=>k g n3) fun G M' base nb ty g CI lG=>?_
  by_cases e3:G=B
  ·subst e3;rw[NC]at g;have e1:=congrArg (fun o:Option AO=>match o with|some (.row _ n _)=>n|_=>0) g
   simp at e1
  ·simp only[go_sem,seval,e3];exact g
 refine⟨fC.trans (Jh h9 _ vY),B,p,M,W,R,ws,rfl,hp.ow,⟨w,hw,hz,Xl⟩,by have:=hp.po;omega,by omega,pG h9 _ m9,by show M<h9.next;omega,by show W<h9.next;omega,by omega,by omega,fun h2 sx=>?_,hp.eq,hp,?_⟩
 rotate_left
 ·have hLl:=hL.lt;have kp6:∀b,b<h6.next->b≠B->∀o,(h9.t.set B (AO.row o 12 95)).get b=h6.t.get b:=fun b lb nb o=>by
   have k1:=D5.old b (by show b<h6.next;omega);have k2:=yI.old b (by show b<h7.next;omega);simp only[go_sem,seval,nb]at k1 k2;simp only[go_sem,seval,nb,k2,k1]
  have kp4:∀b,b<h4.next->b≠B->∀o,(h9.t.set B (AO.row o 12 95)).get b=h4.t.get b:=fun b lb nb o=>by
   rw[kp6 b (by omega) nb o];have k1:=AJ.old b (by show b<h4.next;omega);simp only[go_sem,seval,nb]at k1;exact k1
  have kV:=vX.old h1.next (by show h1.next<h1.next+4;omega);have kK:=vX.old (h1.next+1) (by show h1.next+1<h1.next+4;omega);have kC:=vX.old (h1.next+2) (by show h1.next+2<h1.next+4;omega);have q1:¬h1.next=h1.next+1:=by omega
  have q2:¬h1.next=h1.next+2:=by omega
  have q3:¬h1.next=h1.next+3:=by omega
  have q4:¬h1.next+1=h1.next+2:=by omega
  have q5:¬h1.next+1=h1.next+3:=by omega
  have q6:¬h1.next+2=h1.next+3:=by omega
  simp only[go_sem,seval,q1,q2,q3]at kV;simp only[go_sem,seval,q4,q5]at kK;simp only[go_sem,seval,q6]at kC;obtain⟨gP,SP,Zk,lP,lTk,lGn⟩:=hPo;have lo4:h4.next<=Po:=oPo;have lo5:h4.next<=Tk:=oTk;have lo6:h4.next<=Gn:=oGn;have B4:B<h4.next:=by omega
  have xV:h.next+1<=L:=hL0;rw[hp.eq]at hX gL;refine⟨L,Po,To,h1.next,h1.next+1,h1.next+2,Tk,Gv,Gn,n,(aH c).length+1,cv,iU,wv,⟨by simp only[go_sem,seval];rfl,(kp4 _ (by omega) (by omega) _).trans kV,(kp4 _ (by omega) (by omega) _).trans kK,(kp4 _ (by omega) (by omega) _).trans kC,((Jh h9 _ vY).old L hLl).trans gL,rdc.aF fun b hb=>(Jh h9 _ vY).old b (loc b hb).2,⟨h1.next,fun b hb=>⟨by have:=(loc b hb).1;omega,(loc b hb).2⟩,?_,hLl,by show h1.next<=h9.next;omega,fun b hb=>by rcases hb with rfl|rfl|rfl|rfl|rfl|rfl|rfl|rfl|rfl<;>omega,by omega,by omega,by omega⟩,⟨(kp6 _ lP (by omega) _).trans gP,(kp6 _ lTk (by omega) _).trans SP,(kp6 _ lGn (by omega) _).trans Zk,by show Po<h9.next;omega,by show Tk<h9.next;omega,by show Gn<h9.next;omega⟩,Fo,rfl,⟨by omega,by show B<h9.next;omega⟩,⟨by omega,by show L<h9.next;omega⟩,⟨by omega,by show h1.next<h9.next;omega⟩,⟨by omega,by show h1.next+1<h9.next;omega⟩,⟨by omega,by show h1.next+2<h9.next;omega⟩,⟨by omega,by omega,by omega⟩,⟨?_,?_,?_⟩,?_,⟨wl,?_⟩,⟨h1.next,hLl,by omega,by omega,by omega,by omega,by omega,by omega,by omega,by omega,by omega,by omega,fun a ha=>by have:=NJ a ha;omega⟩,⟨by omega,by omega,by omega⟩⟩⟩
  rotate_left
  ·have k2:=yI.old To YZ;have n1:¬To=B:=by omega
   simp only[go_sem,seval,n1]at k2;simp only[go_sem,seval,n1,k2];exact Xm
  ·omega
  ·show To<h9.next;omega
  ·exact oh.aF (by show h1.next<=h9.next;omega) fun b hb=>(Jh h9 _ vY).old b (NJ b (.inr (.inl hb))).2
  ·rw[←ewc];exact ow.aF (by show h1.next<=h9.next;omega) fun b hb=>(Jh h9 _ vY).old b (NJ b (.inr (.inr hb))).2
  have hX9:=hX.aF (h':=⟨h9.next,h9.t.set B (AO.row (aa 0 [.ptr L 0,.ptr M 0,.ptr Po 0,.ptr To 0,.ptr R 0,.int .i64 0,.bool false,.ax,.ax,.sl h1.next 0 n 1 (some n),.sl (h1.next+1) 0 ((aH c).length+1) 1 (some ((aH c).length+1)),.sl (h1.next+2) 0 ((aH c).length+1) 1 (some ((aH c).length+1))] T.e) 12 95)⟩) (Nat.le_refl _) fun b lb _=>by
   have lb':h7.next<=b:=lb;have q:¬b=B:=by omega
   simp only[go_sem,seval,q]
  exact hX9.mono (by show h1.next<=h7.next;omega)
 have Y5:=sx.old B (by show B<h9.next;omega) BM BW;simp only[go_sem,seval]at Y5;exact⟨⟨L,Po,To,_,_,_,Y5,hL.step ((Jh h9 _ vY).Qt sx (by omega) (by omega))⟩,⟨n,Fo,(Y3 _).off (pG h9 _ m9) sx⟩,Nat.lt_of_lt_of_le (by show B<h9.next;omega) sx.next⟩
@[go_sem]def c36:CF:=⟨2,(Sq [qd 4 0] (Rq [a 5 0,j 6 5,d 7 0 6,a 8 1,M 9 89 7 8,a 4 9])),[.tmp 4]⟩
@[go_sem]def mE:CF:=⟨7,(Oq [a 14 0,a 15 0,j 16 15,d 17 1 16,i 18 17,a 19 1,a 20 2,a 21 3,a 22 4,a 23 5,a 24 6,jy 25 0 0 0 0 0 0 1 19 1 1 20 2 1 21 3 1 22 4 1 23 5 1 24,⟨some 26,none,.n (.fl 195 6 1 [aN,aN,ya,cY,cY,bO] [(0,6,.t 25)])⟩,qo 27 195 6 48 18 26,j 28 14,d 29 1 28,s 1 29 27]),[]⟩
@[go_sem]def c13:CF:=⟨4,(Sq [b 8 0] (Qq (Sq [a 11 0,a 12 1,a 13 2,Q 14 35 11 12 13,a 9 14] (Sq [a 15 9,A 16 41 15 0] (Kq 16 [a 17 9,a 8 17] .skip))) (Sq [a 18 0,j 19 18,d 20 0 19,i 21 20,a 22 2,G 23 1 21 22,a 24 3,M 25 36 23 24,a 10 25] (Sq [a 26 0,a 27 1,a 28 2,a 29 10,a 30 3,zS 31 37 26 27 28 2 29 30] (Rq [b 8 0]))))),[.tmp 8]⟩
@[go_sem]def iV:CF:=⟨3,(Sq [b 6 0] (Qq (.block 0 (Sq [a 8 0,y 9 89 8,a 7 9] (Kq 7 [b 6 1] (Sq [a 11 1,q 12 142 11,qa 13 12,a 10 13] (Kq 10 [b 6 2] (Sq [a 15 2,D 16 3 15 0,a 17 16,r 18 17 2,r 19 17 0,qf 20 17 19,J 21 17 0 20,E 22 17 21,qu 23 17 22,qG 24 17 3 18 23,u 25 17 24,a 14 25] (Kq 14 [b 6 3] .skip))))))) (Rq [b 6 0]))),[.tmp 6]⟩
@[go_sem]def Zl:CF:=⟨6,(Sq [a 13 1,a 14 2,a 15 3,a 16 0,j 17 16,d 18 0 17,i 19 18,a 20 2,G 21 1 19 20,i 22 21,a 23 4,a 24 5,jy 25 0 0 0 0 0 0 1 13 1 1 14 2 1 15 3 1 22 4 1 23 5 1 24,⟨some 12,none,.n (.new 195 [aN,aN,ya,cY,cY,bO])⟩,s 6 12 25] (Sq [a 26 0,j 27 26,d 28 0 27,i 29 28,a 30 2,a 31 4,G 32 1 29 30,s 1 32 31] (.cn ⟨[([g 0 0,g 1 0,n 2 34 1,m 3 35 2 1,k 4 36 3,qt 5 12 6,⟨6,[(38,some 5)],none,.n (.fl 195 6 1 [aN,aN,ya,cY,cY,bO] [(0,6,.t 38)])⟩],some (qJ 7 37 4 39 6 195 6 48)),([n 8 33 0,m 9 41 8 1],some (V 10 42 9 40 7 1)),([],none)],[(0,33),(1,34),(2,35),(3,36),(4,37),(5,38),(6,39),(7,40),(8,41),(9,42)],[(⟨4,[(36,(some 3))],none,.r (.ld none (.t 36))⟩,[0]),(⟨5,[(12,none)],none,.r (.ld (some 6) (.t 12))⟩,[0])]⟩))),[]⟩
@[go_sem]def c87:CF:=⟨4,(Sq [b 8 0] (Qq (Sq [a 10 0,a 11 1,a 12 2,Q 13 157 10 11 12,a 9 13] (Sq [a 14 9,A 15 41 14 0] (Kq 15 [a 16 9,a 8 16] .skip))) (Sq [a 17 0,a 18 1,a 19 2,a 20 3,zT 21 158 17 18 19 2 20] (Rq [b 8 0])))),[.tmp 8]⟩
structure iy where
 th:Int
 ad:Int
 kd:Int
 o:Int
 w:Int
 sw:Bool
def rF(a:iy):List AV:=[.int .i64 a.th,.int .i64 a.ad,.int .u8 a.kd,.int .u64 a.o,.int .u64 a.w,.bool a.sw]
def uF(l:List iy):List AV:=l.flatMap rF
theorem CJ(l m:List iy):uF (l++m)=uF l++uF m:=List.flatMap_append
structure Tch(S:Nat->Prop)(h h':H):Prop where
 next:h.next<=h'.next
 old:∀b,b<h.next->¬S b->h'.t.get b=h.t.get b
def pG(M W:Nat)(lv:AV)(b:Nat):Prop:=b=M\/b=W\/own lv=some b
structure mI(h:H)(M W:Nat)(lv:AV)(ws:List Int)(l:List iy):Prop where
 g:h.t.get M=some (.row (aa 0 [.sl W 0 ws.length 1 (some ws.length),lv] T.e) 2 119)
 w:h.t.get W=some (ag (ws.map (AV.int .u64)) 115)
 l:Own 6 195 h lv l.length (uF l)
 ne:M≠W
 nM:own lv≠some M
 nW:own lv≠some W
 lM:M<h.next
 lW:W<h.next
theorem mI.aF{h h':H}{M W:Nat}{lv:AV}{ws:List Int}{l:List iy}(m:mI h M W lv ws l)(hn:h.next<=h'.next)(k:∀b,b<h.next->pG M W lv b->h'.t.get b=h.t.get b):mI h' M W lv ws l:=
 ⟨(k M m.lM (.inl rfl)).trans m.g,(k W m.lW (.inr (.inl rfl))).trans m.w,m.l.aF hn fun b hb=>k b (m.l.lt hb) (.inr (.inr hb)),m.ne,m.nM,m.nW,Nat.lt_of_lt_of_le m.lM hn,Nat.lt_of_lt_of_le m.lW hn⟩
def rG(M W:Nat)(lv:AV)(ws:List Int)(l:List iy)(h h':H):Prop:=∃dU,mI h' M W dU ws l/\(∀b,own dU=some b->h.next<=b)/\Tch (pG M W lv) h h'
theorem w37(P:Program){call:ab}{h:H}{M W:Nat}{lv:AV}{ws:List Int}{l:List iy}(m:mI h M W lv ws l)(hl:l.length<=1000000)(a:iy):
 WF P call mE [.ptr M 0,.int .i64 a.th,.int .i64 a.ad,.int .u8 a.kd,.int .u64 a.o,.int .u64 a.w,.bool a.sw] h fun v h'=>v=.aE []/\rG M W lv ws (l++[a]) h h':=by
 have lM:=m.lM;have lW:=m.lW;have g:=m.g;have cr:=ae.new h (.row (aa 0 (rF a) T.e) 6 195);have ol1:=m.l.aF cr.next fun b hb=>cr.old b (m.l.lt hb)
 have hap:=du (bytes:=48) (n:=1) (src:=rF a) ol1 (by decide) (by decide) (by omega) (by omega);have NK:=eV (n:=1) (src:=rF a) ol1 (by decide) rfl;have M0:¬M=h.next:=by omega
 have lM1:M<h.next+1:=by omega
 have MO:=cT (h:=⟨h.next+1,h.t.set h.next (.row (aa 0 (rF a) T.e) 6 195)⟩) (e:=195) (v:=lv) (cs:=uF l++rF a) (b:=M) (by show M<h.next+1;omega) m.nM;have aF:∀b,b<h.next->own lv≠some b->(sR ⟨h.next+1,h.t.set h.next (.row (aa 0 (rF a) T.e) 6 195)⟩ 195 lv (uF l++rF a)).t.get b=h.t.get b:=fun b hb hn=>by
  rw[cT (by show b<h.next+1;omega) hn];exact cr.old b hb
 rw[aF M lM m.nM,g]at MO;have gM2:=(aF M lM m.nM).trans g;have ea:uF (l++[a])=uF l++rF a:=by rw[CJ];show _++(rF a++[])=_;rw[List.append_nil]
 simp only[rF]at hap gM2;simp only[go_sem,seval,g,hap,M0,gM2];obtain⟨X,hX⟩:∃X,X=sR ⟨h.next+1,h.t.set h.next (.row (aa 0 (rF a) T.e) 6 195)⟩ 195 lv (uF l++rF a):=⟨_,rfl⟩;have nX:X.next=h.next+2:=by rw[hX];rfl
 simp only[rF]at hX aF NK;rw[←hX]at aF NK⊢;have M1:¬M=h.next+1:=by omega
 have WM:¬W=M:=fun e=>m.ne e.symm
 unfold mF at NK⊢;simp only[go_sem,seval];refine⟨.sl (h.next+1) 0 (l.length+1) 6 none,⟨by simp[go_sem],by simp only[go_sem,seval,WM];exact(aF W lW m.nW).trans m.w,?_,m.ne,?_,?_,by show M<X.next;omega,by show W<X.next;omega⟩,fun b hb=>?_,⟨by show h.next<=X.next;omega,fun b hb hn=>?_⟩⟩
 ·rw[ea,List.length_append];refine NK.aF (Nat.le_refl _) fun b hb=>?_
  have e1:h.next+1=b:=Option.some.inj hb;have e2:¬b=M:=by omega
  simp only[go_sem,seval,e2]
 ·intro e;have e1:h.next+1=M:=Option.some.inj e;omega
 ·intro e;have e1:h.next+1=W:=Option.some.inj e;omega
 ·have e1:h.next+1=b:=Option.some.inj hb;omega
 ·have e1:¬b=M:=fun e=>hn (.inl e)
  simp only[go_sem,seval,e1];exact aF b hb fun e=>hn (.inr (.inr e))
def F89(call:ab):Prop:=∀h W i (x z:Int) cs n e,h.t.get W=some (.row (aa 0 cs T.e) n e)->cs[i]?=some (.int .u64 x)->i<n->call 89 [.ptr W i,.int .u64 z] h=some (.int .u64 x,⟨h.next,h.t.set W (.row (aa 0 (cs.set i (.int .u64 z)) T.e) n e)⟩)
theorem w36(P:Program){call:ab}(aiy:F89 call){h:H}{W i:Nat}{x z:Int}{cs:List AV}{n:Nat}{e:TypeId}(hg:h.t.get W=some (.row (aa 0 cs T.e) n e))(hi:cs[i]?=some (.int .u64 x))(hn:i<n):
 WF P call c36 [.ptr W i,.int .u64 z] h fun v h'=>v=.int .u64 x/\h'=⟨h.next,h.t.set W (.row (aa 0 (cs.set i (.int .u64 z)) T.e) n e)⟩:=by
 have k:=aiy h W i x z cs n e hg hi hn;simp only[go_sem,seval,k]
def F36(call:ab):Prop:=∀h W i (x z:Int) cs n e,h.t.get W=some (.row (aa 0 cs T.e) n e)->cs[i]?=some (.int .u64 x)->i<n->call 36 [.ptr W i,.int .u64 z] h=some (.int .u64 x,⟨h.next,h.t.set W (.row (aa 0 (cs.set i (.int .u64 z)) T.e) n e)⟩)
def Xo(call:ab):Prop:=∀h M W ws (t a:Int),dK h M W ws->call 35 [.ptr M 0,.int .i64 t,.int .i64 a] h=some (.int .i64 (if t<0\/64<=t then 2 else if a<0\/(ws.length:Int)<=a then 3 else 0),h)
def Xp(call:ab):Prop:=∀h M W lv ws l,mI h M W lv ws l->l.length<=1000000->∀a:iy,∃v h',call 37 [.ptr M 0,.int .i64 a.th,.int .i64 a.ad,.int .u8 a.kd,.int .u64 a.o,.int .u64 a.w,.bool a.sw] h=some (v,h')/\(v=.aE []/\rG M W lv ws (l++[a]) h h')
theorem mI.mem{h:H}{M W:Nat}{lv:AV}{ws:List Int}{l:List iy}(m:mI h M W lv ws l):dK h M W ws:=⟨⟨lv,m.g,m.l.one⟩,m.w,m.ne⟩
theorem mI.set{h:H}{M W:Nat}{lv:AV}{ws:List Int}{l:List iy}(m:mI h M W lv ws l)(i:Nat)(z:Int):mI ⟨h.next,h.t.set W (.row (aa 0 ((ws.map (AV.int .u64)).set i (.int .u64 z)) T.e) (ws.map (AV.int .u64)).length 115)⟩ M W lv (ws.set i z) l:=by
 have MW:=m.ne;refine⟨by simp only[go_sem,seval,MW,List.length_set];exact m.g,?_,m.l.aF (Nat.le_refl _) fun b hb=>?_,m.ne,m.nM,m.nW,m.lM,m.lW⟩
 ·simp only[go_sem,seval];unfold ag;rw[List.map_set,List.length_set]
 ·have e1:¬b=W:=fun e=>m.nW (by rw[hb,e])
  simp only[go_sem,seval,e1]
theorem w13(P:Program){call:ab}(Zm:Xo call)(h92:F36 call)(Zn:Xp call){h:H}{M W:Nat}{lv:AV}{ws:List Int}{l:List iy}(m:mI h M W lv ws l)(hl:l.length<=1000000){t:Int}(t0:0<=t)(t1:t<64){i:Nat}{x z:Int}(hx:ws[i]?=some x):
 WF P call c13 [.ptr M 0,.int .i64 t,.int .i64 (i:Int),.int .u64 z] h fun v h'=>v=.int .i64 0/\rG M W lv (ws.set i z) (l++[⟨t,(i:Int),2,x,z,false⟩]) h h':=by
 have hi:i<ws.length:=(List.getElem?_eq_some_iff.1 hx).1;have k1:=Zm h M W ws t (i:Int) m.mem;rw[if_neg (by omega),if_neg (by omega)]at k1;have B9:(ws.map (AV.int .u64))[i]?=some (.int .u64 x):=by rw[List.getElem?_map,hx];rfl
 have k2:=h92 h W i x z _ _ _ m.w B9 (by rw[List.length_map];exact hi);have gM:=m.g;have e1:(i:Int)<(ws.length:Int):=by omega
 have k3:=Zn _ M W lv _ l (m.set i z) hl ⟨t,(i:Int),2,x,z,false⟩;simp only[go_sem,seval,k1,gM,e1,Nat.mul_one,k2];refine af k3 fun v3 h3 p3=>?_
 obtain⟨rfl,dU,m3,lo3,fW⟩:=p3;simp only[go_sem,seval];refine⟨dU,m3,lo3,fW.next,fun b hb hn=>?_⟩;rw[fW.old b hb hn];have e2:¬b=W:=fun e=>hn (.inr (.inl e))
 simp only[go_sem,seval,e2]
def D6(call:ab):Prop:=∀h M W lv ws l (t:Int) (i:Nat) (x z:Int),mI h M W lv ws l->l.length<=1000000->0<=t->t<64->ws[i]?=some x->∃v h',call 13 [.ptr M 0,.int .i64 t,.int .i64 (i:Int),.int .u64 z] h=some (v,h')/\(v=.int .i64 0/\rG M W lv (ws.set i z) (l++[⟨t,(i:Int),2,x,z,false⟩]) h h')
@[go_sem]def Zo:CF:=⟨1,(Sq [w 2] (Rq [a 3 0,qP 4 3 3 0,a 5 4,K 6 5 0,qy 7 5 3 6 64,O 8 5 7,a 2 8])),[.tmp 2]⟩
theorem aiB(P:Program){call:ab}{h:H}(t:Int):WF P call Zo [.int .i64 t] h fun v h'=>v=.bool (decide (0<=t/\t<64))/\h'=h:=by
 by_cases h0:t<0
 ·have e:¬(0<=t/\t<64):=by omega
  simp only[go_sem,seval,h0,e]
 ·by_cases h1:t<64
  ·have e:0<=t/\t<64:=by omega
   simp only[go_sem,seval,h0,h1,e]
  ·have e:¬(0<=t/\t<64):=by omega
   simp only[go_sem,seval,h0,h1,e]
def Ji(call:ab):Prop:=∀h (t:Int),call 142 [.int .i64 t] h=some (.bool (decide (0<=t/\t<64)),h)
theorem aiC(h36:Ji call){h:H}{M W:Nat}{ws:List Int}{lg:AV}(m:fN h M W ws lg){t a:Int}(t0:0<=t)(t1:t<64)(a0:0<=a)(a1:a<(ws.length:Int)):WF P call iV [.ptr M 0,.int .i64 t,.int .i64 a] h fun v h'=>v=.int .i64 0/\h'=h:=by
 have gM:=m.g;have k:=h36 h t;have e:0<=t/\t<64:=⟨t0,t1⟩;have e1:¬a<0:=by omega
 simp only[go_sem,seval,k,e,gM,e1,a1]
def Jj(call:ab):Prop:=∀h M W (ws:List Int) lg (t a:Int),fN h M W ws lg->0<=t->t<64->0<=a->a<(ws.length:Int)->call 157 [.ptr M 0,.int .i64 t,.int .i64 a] h=some (.int .i64 0,h)
structure mS(h:H)(M W:Nat)(lv:AV)(ws:List Int)(l:List iy):Prop where
 g:h.t.get M=some (ag [.sl W 0 ws.length 1 none,lv] 188)
 w:h.t.get W=some (ag (uL ws) 50)
 l:Own 6 195 h lv l.length (uF l)
 ne:M≠W
 nM:own lv≠some M
 nW:own lv≠some W
 lM:M<h.next
 lW:W<h.next
theorem mS.aF{h h':H}{M W:Nat}{lv:AV}{ws:List Int}{l:List iy}(m:mS h M W lv ws l)(hn:h.next<=h'.next)(k:∀b,b<h.next->pG M W lv b->h'.t.get b=h.t.get b):mS h' M W lv ws l:=
 ⟨(k M m.lM (.inl rfl)).trans m.g,(k W m.lW (.inr (.inl rfl))).trans m.w,m.l.aF hn fun b hb=>k b (m.l.lt hb) (.inr (.inr hb)),m.ne,m.nM,m.nW,Nat.lt_of_lt_of_le m.lM hn,Nat.lt_of_lt_of_le m.lW hn⟩
theorem mS.mem{h:H}{M W:Nat}{lv:AV}{ws:List Int}{l:List iy}(m:mS h M W lv ws l):fN h M W ws lv:=⟨m.g,m.l.one,m.w,m.ne⟩
def wh(M W:Nat)(lv:AV)(ws:List Int)(l:List iy)(h h':H):Prop:=∃dU,mS h' M W dU ws l/\(∀b,own dU=some b->h.next<=b)/\Tch (pG M W lv) h h'
theorem Jk{HH:H}{lv:AV}{len:Nat}{cs src:List AV}{K:AV×H->Prop}(o:Own 6 195 HH lv len cs)(hs:src.length=6)(hl:len<=1000000)
 (hK:∀X:H,X.next=HH.next+1->Own 6 195 X (.sl HH.next 0 (len+1) 6 none) (len+1) (cs++src)->(∀b,b<HH.next->own lv≠some b->X.t.get b=HH.t.get b)->K (.sl HH.next 0 (len+1) 6 none,X)):@gw _ (ry HH 195 6 48 lv 1 src) ⟨K⟩:=
 b8 (du o (by decide) (by decide) (by omega) (by omega)) (hK _ rfl (eV o (by decide) hs) fun b hb hn=>cT hb hn)
theorem aiD(P:Program){call:ab}{h:H}{M W:Nat}{lv:AV}{ws:List Int}{l:List iy}(m:mS h M W lv ws l)(hl:l.length<=1000000){t:Int}{i:Nat}{x z k:Int}{b:Bool}(hx:ws[i]?=some x):
 WF P call Zl [.ptr M 0,.int .i64 t,.int .i64 (i:Int),.int .u8 k,.int .u64 z,.bool b] h fun v h'=>v=.aE []/\wh M W lv (ws.set i z) (l++[⟨t,(i:Int),k,x,z,b⟩]) h h':=by
 have gM:=m.g;have gW:=m.w;have hM:=m.lM;have hW:=m.lW;have hi:i<ws.length:=(List.getElem?_eq_some_iff.1 hx).1;have Cc:=fm ws;have B9:(uL ws)[i]?=some (.int .u64 x):=by unfold uL;rw[List.getElem?_map,hx];rfl
 have e1:(i:Int)<(ws.length:Int):=by omega
 have MW:¬M=W:=m.ne;have WM:¬W=M:=fun e=>MW e.symm
 have M1:¬M=h.next:=by omega
 have W1:¬W=h.next:=by omega
 have M2:¬M=h.next+1:=by omega
 have W2:¬W=h.next+1:=by omega
 have vf:i+1<=ws.length:=hi;have N1:¬h.next=W:=by omega
 have N2:¬h.next=M:=by omega
 have N3:¬h.next=h.next+1:=by omega
 have N4:¬h.next+1=W:=by omega
 have N5:¬h.next+1=M:=by omega
 have N7:¬h.next+1=h.next:=by omega
 have ov:=m.l.one;simp only[go_sem,seval,gM,gW,e1,Nat.mul_one,B9,Cc,hi,vf,MW,WM,M1,W1,M2,W2,N1,N2,N3,N4,N5,N7,ov];have ea:uF (l++[⟨t,(i:Int),k,x,z,b⟩])=uF l++[AV.int .i64 t,AV.int .i64 (i:Int),AV.int .u8 k,AV.int .u64 x,AV.int .u64 z,AV.bool b]:=by rw[CJ];rfl
 refine Jk (m.l.aF (by show h.next<=h.next+2;omega) fun bb hb=>?_) rfl hl fun X nX oX kX=>?_
 ·have q1:=m.l.lt hb;have q2:¬bb=h.next:=by omega
  have q3:¬bb=h.next+1:=by omega
  have q4:¬bb=W:=fun e=>m.nW (by rw[hb,e])
  simp only[go_sem,seval,q2,q3,q4]
 replace nX:X.next=h.next+3:=nX;have MO:=kX M (by show M<h.next+2;omega) m.nM;have gW1:=kX W (by show W<h.next+2;omega) m.nW;simp only[go_sem,seval,M1,M2,MW,gM]at MO;simp only[go_sem,seval,W1,W2]at gW1;have M3:¬M=h.next+2:=by omega
 have nX2:h.next+2<=X.next:=by omega
 have fI:=kX h.next (by show h.next<h.next+2;omega) fun e=>absurd (m.l.lt e) (Nat.lt_irrefl _)
 simp only[go_sem,seval]at fI;rw[if_neg N1]at fI;simp only[go_sem,seval,MO,nX2,fI,gM,MW,WM,M1,W1,M2,W2,N1,N2,N3,N4,N5,N7,ov];refine⟨.sl (h.next+2) 0 (l.length+1) 6 none,⟨?_,?_,?_,m.ne,fun e=>?_,fun e=>?_,by show M<X.next;omega,by show W<X.next;omega⟩,fun bb hb=>?_,⟨by show h.next<=X.next;omega,fun bb hb hn=>?_⟩⟩
 ·simp only[go_sem,seval,List.length_set];rfl
 ·simp only[go_sem,seval,WM,gW1,←AG];unfold ag;rw[List.length_set,Cc]
 ·rw[ea,List.length_append];refine oX.aF (Nat.le_refl _) fun bb hb=>?_
  have q1:h.next+2=bb:=Option.some.inj hb;have q2:¬bb=M:=by omega
  simp only[go_sem,seval,q2]
 ·have q1:h.next+2=M:=Option.some.inj e;omega
 ·have q1:h.next+2=W:=Option.some.inj e;omega
 ·have q1:h.next+2=bb:=Option.some.inj hb;omega
 ·have q1:¬bb=M:=fun e=>hn (.inl e)
  have q2:¬bb=W:=fun e=>hn (.inr (.inl e))
  have q3:=kX bb (by show bb<h.next+2;omega) fun e=>hn (.inr (.inr e))
  have q4:¬bb=h.next:=by omega
  have q5:¬bb=h.next+1:=by omega
  simp only[go_sem,seval,q2,q4,q5]at q3;simp only[go_sem,seval,q1,q3]
def Jl(call:ab):Prop:=∀h M W lv ws l (t:Int) (i:Nat) (x z k:Int) b,mS h M W lv ws l->l.length<=1000000->ws[i]?=some x->∃v h',call 158 [.ptr M 0,.int .i64 t,.int .i64 (i:Int),.int .u8 k,.int .u64 z,.bool b] h=some (v,h')/\(v=.aE []/\wh M W lv (ws.set i z) (l++[⟨t,(i:Int),k,x,z,b⟩]) h h')
theorem w87(P:Program){call:ab}(h94:Jj call)(h95:Jl call){h:H}{M W:Nat}{lv:AV}{ws:List Int}{l:List iy}(m:mS h M W lv ws l)(hl:l.length<=1000000){t:Int}(t0:0<=t)(t1:t<64){i:Nat}{x z:Int}(hx:ws[i]?=some x):
 WF P call c87 [.ptr M 0,.int .i64 t,.int .i64 (i:Int),.int .u64 z] h fun v h'=>v=.int .i64 0/\wh M W lv (ws.set i z) (l++[⟨t,(i:Int),2,x,z,false⟩]) h h':=by
 have hi:i<ws.length:=(List.getElem?_eq_some_iff.1 hx).1;have k:=h94 h M W ws lv t (i:Int) m.mem t0 t1 (by omega) (by omega);simp only[go_sem,seval,k];refine af (h95 h M W lv ws l t i x z 2 false m hl hx) fun v1 h1 p1=>?_
 obtain⟨rfl,p1⟩:=p1;simp only[go_sem,seval];exact p1
def Xq(call:ab):Prop:=∀h M W lv ws l (t:Int) (i:Nat) (x z:Int),mS h M W lv ws l->l.length<=1000000->0<=t->t<64->ws[i]?=some x->∃v h',call 87 [.ptr M 0,.int .i64 t,.int .i64 (i:Int),.int .u64 z] h=some (v,h')/\(v=.int .i64 0/\wh M W lv (ws.set i z) (l++[⟨t,(i:Int),2,x,z,false⟩]) h h')
def Xr(hs:List Int)(x:Int)(lo hi:Nat)(v:Int):Prop:=(v=0/\∀j,lo<=j->j<hi->hs[j]?≠some x)\/∃j,lo<=j/\j<hi/\hs[j]?=some x/\v=(j:Int)+1/\∀j',lo<=j'->j'<j->hs[j']?≠some x
theorem Xr.uniq{hs:List Int}{x:Int}{lo hi:Nat}{v w:Int}(a:Xr hs x lo hi v)(b:Xr hs x lo hi w):v=w:=by
 rcases a with⟨rfl,a⟩|⟨j,a1,a2,a3,rfl,a4⟩
 ·rcases b with⟨rfl,b⟩|⟨i,b1,b2,b3,rfl,b4⟩
  ·rfl
  ·exact absurd b3 (a i b1 b2)
 ·rcases b with⟨rfl,b⟩|⟨i,b1,b2,b3,rfl,b4⟩
  ·exact absurd a3 (b j a1 a2)
  ·rcases Nat.lt_trichotomy i j with h|h|h
   ·exact absurd b3 (a4 i b1 h)
   ·rw[h]
   ·exact absurd a3 (b4 j a1 h)
structure Asc(hs:List Int):Prop where
 rng:∀(j:Nat) x,hs[j]?=some x->1<=x/\x<=6
 le:∀(i j:Nat) x y,i<=j->hs[i]?=some x->hs[j]?=some y->x<=y
structure Zp(P:Nat)(hs:List Int)(W i:Nat)(ws:List Int):Prop where
 len:ws.length=W
 sU:∀x:Nat,x<6->∃v,ws[P+x]?=some v/\Xr hs ((x:Int)+1) 0 i v
 link:∀k,k<hs.length->ws[P+6+k]?=some (if k+1<i/\hs[k]?=hs[k+1]? then(k:Int)+2 else 0)
 rest:∀q,q<W->(q<P\/P+6+hs.length<=q)->ws[q]?=some 0
theorem inA(P:Nat){hs:List Int}(as:Asc hs){W:Nat}(hW:P+6+hs.length<=W):∀i,i<=hs.length->Zp P hs W i (AF (P:Int) ((P:Int)+6) hs W i)
 |0,_=>by
  have z:∀q,q<W->(List.replicate W (0:Int))[q]?=some 0:=fun q hq=>by rw[List.getElem?_replicate,if_pos hq]
  exact⟨List.length_replicate,fun x hx=>⟨0,z _ (by omega),.inl ⟨rfl,fun j _ hj=>by omega⟩⟩,fun k hk=>by rw[if_neg (by omega)];exact z _ (by omega),fun q hq _=>z q hq⟩
 |i+1,hi=>by
  have ih:=inA P as hW i (by omega)
  show Zp P hs W (i+1) (vW (P:Int) ((P:Int)+6) hs i (AF (P:Int) ((P:Int)+6) hs W i))
  generalize AF (P:Int) ((P:Int)+6) hs W i=ws at ih;obtain⟨x,hx⟩:∃x,hs[i]?=some x:=⟨hs[i],List.getElem?_eq_getElem (by omega)⟩;obtain⟨r1,r2⟩:=as.rng i x hx;unfold vW;rw[hx];simp only[]
  by_cases hp:0<i/\hs[i-1]?=some x
  ·rw[if_pos hp,show((P:Int)+6+(i:Int) -1).toNat=P+6+(i-1) by omega];refine⟨by rw[List.length_set];exact ih.len,fun y hy=>?_,fun k hk=>?_,fun q hq h=>?_⟩
   ·obtain⟨v,hv,hf⟩:=ih.sU y hy;refine⟨v,by rw[List.getElem?_set,if_neg (by omega)];exact hv,?_⟩;rcases hf with⟨rfl,hf⟩|⟨j,a1,a2,a3,rfl,a4⟩
    ·refine .inl ⟨rfl,fun j h1 h2=>?_⟩
     by_cases e:j=i
     ·rw[e,hx];intro e2;exact hf (i-1) (by omega) (by omega) (hp.2.trans e2)
     ·exact hf j h1 (by omega)
    ·exact .inr ⟨j,a1,by omega,a3,rfl,a4⟩
   ·rw[List.getElem?_set]
    by_cases e:P+6+(i-1)=P+6+k
    ·rw[if_pos e,if_pos (by rw[ih.len];omega)];have e2:k=i-1:=by omega
     rw[if_pos ⟨by omega,by rw[e2,hp.2,show i-1+1=i by omega,hx]⟩];congr 1;omega
    ·rw[if_neg e,ih.link k hk]
     by_cases c:k+1<i/\hs[k]?=hs[k+1]?
     ·rw[if_pos c,if_pos ⟨by omega,c.2⟩]
     ·rw[if_neg c,if_neg (fun h=>c ⟨by omega,h.2⟩)]
   ·rw[List.getElem?_set,if_neg (by omega)];exact ih.rest q hq h
  ·rw[if_neg hp,show((P:Int)+x-1).toNat=P+(x-1).toNat by omega];have no:∀j,j<i->hs[j]?≠some x:=fun j hj e=>by
    have h0:0<i:=by omega
    obtain⟨y,hy⟩:∃y,hs[i-1]?=some y:=⟨hs[i-1],List.getElem?_eq_getElem (by omega)⟩;have l1:=as.le j (i-1) x y (by omega) e hy;have l2:=as.le (i-1) i y x (by omega) hy hx;exact hp ⟨h0,by rw[hy,show y=x by omega]⟩
   refine⟨by rw[List.length_set];exact ih.len,fun y hy=>?_,fun k hk=>?_,fun q hq h=>?_⟩
   ·rw[List.getElem?_set]
    by_cases e:P+(x-1).toNat=P+y
    ·rw[if_pos e,if_pos (by rw[ih.len];omega)];have e2:(y:Int)+1=x:=by omega
     exact⟨_,rfl,.inr ⟨i,by omega,by omega,by rw[e2];exact hx,rfl,fun j h1 h2=>by rw[e2];exact no j h2⟩⟩
    ·rw[if_neg e];obtain⟨v,hv,hf⟩:=ih.sU y hy;refine⟨v,hv,?_⟩;rcases hf with⟨rfl,hf⟩|⟨j,a1,a2,a3,rfl,a4⟩
     ·refine .inl ⟨rfl,fun j h1 h2=>?_⟩
      by_cases e3:j=i
      ·rw[e3,hx];intro e2;have:=Option.some.inj e2;omega
      ·exact hf j h1 (by omega)
     ·exact .inr ⟨j,a1,by omega,a3,rfl,a4⟩
   ·rw[List.getElem?_set,if_neg (by omega),ih.link k hk]
    by_cases c:k+1<i/\hs[k]?=hs[k+1]?
    ·rw[if_pos c,if_pos ⟨by omega,c.2⟩]
    ·rw[if_neg c,if_neg (fun h=>?_)]
     by_cases c2:k+1<i
     ·exact c ⟨c2,h.2⟩
     ·have e:i=k+1:=by omega
      exact no k (by omega) (by rw[h.2,←e,hx])
   ·rw[List.getElem?_set,if_neg (by omega)];exact ih.rest q hq h
structure InB(P:Nat)(hs:List Int)(W i:Nat)(ws:List Int):Prop where
 len:ws.length=W
 sU:∀x:Nat,x<6->∃v,ws[P+x]?=some v/\Xr hs ((x:Int)+1) i hs.length v
 link:∀k,k<hs.length->ws[P+6+k]?=some (if i<=k/\hs[k]?=hs[k+1]? then(k:Int)+2 else 0)
 rest:∀q,q<W->(q<P\/P+6+hs.length<=q)->ws[q]?=some 0
theorem inB(P:Nat){hs:List Int}(as:Asc hs){W:Nat}(hW:P+6+hs.length<=W):∀j,j<=hs.length->InB P hs W (hs.length-j) (wg (P:Int) ((P:Int)+6) hs W j)
 |0,_=>by
  have z:∀q,q<W->(List.replicate W (0:Int))[q]?=some 0:=fun q hq=>by rw[List.getElem?_replicate,if_pos hq]
  exact⟨List.length_replicate,fun x hx=>⟨0,z _ (by omega),.inl ⟨rfl,fun j h1 h2=>by omega⟩⟩,fun k hk=>by rw[if_neg (by omega)];exact z _ (by omega),fun q hq _=>z q hq⟩
 |j+1,hj=>by
  have ih:=inB P as hW j (by omega)
  show InB P hs W (hs.length-(j+1)) (oY (P:Int) ((P:Int)+6) hs (hs.length-1-j) (wg (P:Int) ((P:Int)+6) hs W j))
  generalize wg (P:Int) ((P:Int)+6) hs W j=ws at ih;obtain⟨i,hi⟩:∃i,i=hs.length-(j+1):=⟨_,rfl⟩;rw[←hi,show hs.length-1-j=i by omega];rw[show hs.length-j=i+1 by omega]at ih;obtain⟨x,hx⟩:∃x,hs[i]?=some x:=⟨hs[i],List.getElem?_eq_getElem (by omega)⟩;obtain⟨r1,r2⟩:=as.rng i x hx;unfold oY;rw[hx];simp only[];obtain⟨y,hy,SK⟩:∃y:Nat,x=(y:Int)+1/\y<6:=⟨(x-1).toNat,by omega,by omega⟩;rw[show((P:Int)+6+((i:Int)+1) -1).toNat=P+6+i by omega,show((P:Int)+x-1).toNat=P+y by omega];obtain⟨v,hv,hf⟩:=ih.sU y SK;rw[List.getD_eq_getElem?_getD,hv,Option.getD_some];rw[←hy]at hf;have hvv:v=if hs[i]?=hs[i+1]? then(i:Int)+2 else 0:=by
   rcases hf with⟨rfl,hf⟩|⟨k,a1,a2,a3,rfl,a4⟩
   ·rw[if_neg fun e=>?_];rw[hx]at e
    by_cases h1:i+1<hs.length
    ·exact hf (i+1) (Nat.le_refl _) h1 e.symm
    ·rw[List.getElem?_eq_none (by omega)]at e;cases e
   ·obtain⟨z,hz⟩:∃z,hs[i+1]?=some z:=⟨hs[i+1],List.getElem?_eq_getElem (by omega)⟩;have l1:=as.le i (i+1) x z (by omega) hx hz;have l2:=as.le (i+1) k z x a1 hz a3;have e1:z=x:=by omega
    rw[if_pos (by rw[hx,hz,e1])]
    by_cases e2:k=i+1
    ·omega
    ·exact absurd (by rw[hz,e1]) (a4 (i+1) (Nat.le_refl _) (by omega))
  refine⟨by rw[List.length_set,List.length_set];exact ih.len,fun q hq=>?_,fun k hk=>?_,fun q hq h=>?_⟩
  ·rw[List.getElem?_set]
   by_cases e:P+y=P+q
   ·rw[if_pos e,if_pos (by rw[List.length_set,ih.len];omega)];have e2:(q:Int)+1=x:=by omega
    exact⟨_,rfl,.inr ⟨i,Nat.le_refl _,by omega,by rw[e2];exact hx,rfl,fun j' h1 h2=>by omega⟩⟩
   ·rw[if_neg e,List.getElem?_set,if_neg (by omega)];obtain⟨u,hu,hg⟩:=ih.sU q hq;refine⟨u,hu,?_⟩;have ne:hs[i]?≠some ((q:Int)+1):=fun e2=>by
      rw[hx]at e2;have:=Option.some.inj e2;omega
    rcases hg with⟨rfl,hg⟩|⟨k,a1,a2,a3,rfl,a4⟩
    ·refine .inl ⟨rfl,fun j' h1 h2=>?_⟩
     by_cases e3:j'=i
     ·rw[e3];exact ne
     ·exact hg j' (by omega) h2
    ·refine .inr ⟨k,by omega,a2,a3,rfl,fun j' h1 h2=>?_⟩
     by_cases e3:j'=i
     ·rw[e3];exact ne
     ·exact a4 j' (by omega) h2
  ·rw[List.getElem?_set,if_neg (by omega),List.getElem?_set]
   by_cases e:P+6+i=P+6+k
   ·have e2:k=i:=by omega
    rw[if_pos e,if_pos (by rw[ih.len];omega),hvv,e2]
    by_cases c:hs[i]?=hs[i+1]?
    ·rw[if_pos c,if_pos ⟨Nat.le_refl _,c⟩]
    ·rw[if_neg c,if_neg fun h=>c h.2]
   ·rw[if_neg e,ih.link k hk]
    by_cases c:i+1<=k/\hs[k]?=hs[k+1]?
    ·rw[if_pos c,if_pos ⟨by omega,c.2⟩]
    ·rw[if_neg c,if_neg fun h=>c ⟨by omega,h.2⟩]
  ·rw[List.getElem?_set,if_neg (by omega),List.getElem?_set,if_neg (by omega)];exact ih.rest q hq h
theorem SR(P:Nat){hs:List Int}(as:Asc hs){W:Nat}(hW:P+6+hs.length<=W):AF (P:Int) ((P:Int)+6) hs W hs.length=wg (P:Int) ((P:Int)+6) hs W hs.length:=by
 have a:=inA P as hW hs.length (Nat.le_refl _);have b:=inB P as hW hs.length (Nat.le_refl _);rw[Nat.sub_self]at b;generalize AF (P:Int) ((P:Int)+6) hs W hs.length=u at a;generalize wg (P:Int) ((P:Int)+6) hs W hs.length=w at b;refine List.ext_getElem? fun q=>?_
 by_cases hq:q<W
 ·by_cases h1:q<P\/P+6+hs.length<=q
  ·rw[a.rest q hq h1,b.rest q hq h1]
  ·by_cases h2:q<P+6
   ·obtain⟨v,hv,hf⟩:=a.sU (q-P) (by omega);obtain⟨v',iU,hf'⟩:=b.sU (q-P) (by omega);rw[show P+(q-P)=q by omega]at hv iU;rw[hv,iU,hf.uniq hf']
   ·have l1:=a.link (q-(P+6)) (by omega);have l2:=b.link (q-(P+6)) (by omega);rw[show P+6+(q-(P+6))=q by omega]at l1 l2;rw[l1,l2];obtain⟨k,hk⟩:∃k,k=q-(P+6):=⟨_,rfl⟩;rw[←hk];have Zq:k<hs.length:=by omega
    by_cases c:hs[k]?=hs[k+1]?
    ·have c2:k+1<hs.length:=by
      rw[List.getElem?_eq_getElem Zq]at c;have:=List.getElem?_eq_some_iff.1 c.symm;exact this.1
     rw[if_pos ⟨c2,c⟩,if_pos ⟨Nat.zero_le _,c⟩]
    ·rw[if_neg fun h=>c h.2,if_neg fun h=>c h.2]
 ·rw[List.getElem?_eq_none (by rw[a.len];omega),List.getElem?_eq_none (by rw[b.len];omega)]
theorem CL:∀(ts:List Int) (i:Int),(uX i ts).Pairwise (·<=·)
 | [],i=>by simp[uX]
 |t::l,i=>by
  unfold uX;refine List.pairwise_append.2 ⟨?_,CL l (i+1),fun a ha b hb=>?_⟩
  ·exact List.pairwise_replicate.2 (.inr (Int.le_refl _))
  ·have h1:=(List.mem_replicate.1 ha).2;have h2:=Ay l (i+1) b hb;omega
theorem AM(c:aj):Asc (aH c):=by
 refine⟨fun j x hx=>dh x (List.mem_of_getElem? hx),fun i j x y Xs hx hy=>?_⟩;rcases Nat.lt_or_eq_of_le Xs with h|h
 ·obtain⟨h1,rfl⟩:=List.getElem?_eq_some_iff.1 hx;obtain⟨h2,rfl⟩:=List.getElem?_eq_some_iff.1 hy;exact List.pairwise_iff_getElem.1 (CL _ _) i j h1 h2 h
 ·subst h;rw[hx]at hy;exact Int.le_of_eq (Option.some.inj hy)
theorem Jm{c:aj}(hp:ye c (aA c))(hs:0<=c.aq){W:Nat}(hW:(aA c).wo=(W:Int)){u w:List Int}(hu:rC c W u)(hw:GY c W w):u=w:=by
 have h1:=hp.po;have h2:=hp.li;have e:(aA c).li=(aA c).po+6:=rfl;obtain⟨P,hP⟩:∃P:Nat,(aA c).po=(P:Int):=⟨(aA c).po.toNat,by omega⟩;unfold rC at hu;unfold GY at hw;rw[e,hP]at hu hw;rw[hu,hw];exact SR P (AM c) (by omega)
end
end Go.Proofs.YtgkjlklfjbljeaaGreat.CQ
namespace Go.Proofs.YtgkjlklfjbljeaaGreat.CQ
open Go.Proofs.YtgkjlklfjbljeaaGreat.Eo
noncomputable section
structure Cm where
 I:H->Prop
 F:Nat->Prop
 st:∀{h h':H},h.next<=h'.next->(∀b,b<h.next->F b->h'.t.get b=h.t.get b)->I h->I h'
 lt:∀{h:H},I h->∀b,F b->b<h.next
structure Sp(h:H)(l:List Cm):Prop where
 ok:∀(n:Nat) c,l[n]?=some c->c.I h
 dj:∀(i j:Nat) c d b,l[i]?=some c->l[j]?=some d->c.F b->d.F b->i=j
section
variable {h h':H} {l:List Cm} {n:Nat} {c c':Cm}
theorem Sp.lq(s:Sp h l)(hc:l[n]?=some c)(hn:h.next<=h'.next)(old:∀b,b<h.next->¬c.F b->h'.t.get b=h.t.get b)(I':c'.I h')(F':∀b,c'.F b->c.F b\/h.next<=b):Sp h' (l.set n c'):=by
 have key:∀(i:Nat) x,(l.set n c')[i]?=some x->(i=n/\x=c')\/(i≠n/\l[i]?=some x):=fun i x hx=>by
  rw[List.getElem?_set]at hx;split at hx
  ·rename_i e;split at hx
   ·exact .inl ⟨e.symm,(Option.some.inj hx).symm⟩
   ·cases hx
  ·rename_i e;exact .inr ⟨fun q=>e q.symm,hx⟩
 refine⟨fun i x hx=>?_,fun i j x y b hx hy fx fy=>?_⟩
 ·rcases key i x hx with⟨_,rfl⟩|⟨hi,hx⟩
  ·exact I'
  ·exact x.st hn (fun b lb fb=>old b lb fun q=>hi (s.dj i n x c b hx hc fb q)) (s.ok i x hx)
 ·rcases key i x hx with⟨ei,ex⟩|⟨hi,vg⟩
  ·rcases key j y hy with⟨ej,ey⟩|⟨hj,sV⟩
   ·rw[ei,ej]
   ·rw[ex]at fx;rcases F' b fx with q|q
    ·rw[ei];exact s.dj _ _ c y b hc sV q fy
    ·have:=y.lt (s.ok j y sV) b fy;omega
  ·rcases key j y hy with⟨ej,ey⟩|⟨hj,sV⟩
   ·rw[ey]at fy;rcases F' b fy with q|q
    ·rw[ej];exact s.dj _ _ x c b vg hc fx q
    ·have:=x.lt (s.ok i x vg) b fx;omega
   ·exact s.dj _ _ x y b vg sV fx fy
theorem Sp.step(s:Sp h l)(st:ae h h'):Sp h' l:=⟨fun i x hx=>x.st st.next (fun b lb _=>st.old b lb) (s.ok i x hx),s.dj⟩
theorem Sp.cons(s:Sp h l)(st:ae h h')(I':c.I h')(F':∀b,c.F b->h.next<=b):Sp h' (c::l):=by
 have s':=s.step st;refine⟨fun i x hx=>?_,fun i j x y b hx hy fx fy=>?_⟩
 ·cases i with
  |zero=>obtain rfl:=Option.some.inj hx;exact I'
  |succ i=>exact s'.ok i x hx
 ·cases i with
  |zero=>
   cases j with
   |zero=>rfl
   |succ j=>
    obtain rfl:=Option.some.inj hx;have q1:=F' b fx;have q2:=y.lt (s.ok j y hy) b fy;omega
  |succ i=>
   cases j with
   |zero=>
    obtain rfl:=Option.some.inj hy;have q1:=F' b fy;have q2:=x.lt (s.ok i x hx) b fx;omega
   |succ j=>exact congrArg (·+1) (s.dj i j x y b hx hy fx fy)
theorem Sp.tail(s:Sp h (c::l)):Sp h l:=⟨fun i x hx=>s.ok (i+1) x hx,fun i j x y b hx hy fx fy=>Nat.succ.inj (s.dj (i+1) (j+1) x y b hx hy fx fy)⟩
theorem Sp.ne(s:Sp h l){i j:Nat}{x y:Cm}(hi:l[i]?=some x)(hj:l[j]?=some y)(Xs:i≠j){b:Nat}(fx:x.F b):¬y.F b:=fun fy=>Xs (s.dj i j x y b hi hj fx fy)
end
theorem eX{L:List Cm}{i n:Nat}{c d:Cm}(h:L[i]?=some c)(dB:i≠n):(L.set n d)[i]?=some c:=by rw[List.getElem?_set_ne (Ne.symm dB)];exact h
theorem Fs{L:List Cm}{n:Nat}{c d:Cm}(h:L[n]?=some c):(L.set n d)[n]?=some d:=by rw[List.getElem?_set_self (List.getElem?_eq_some_iff.1 h).1]
def aD(b:Nat)(o:AO):Cm:=⟨fun h=>h.t.get b=some o/\b<h.next,fun x=>x=b,fun hn k q=>⟨(k b q.2 rfl).trans q.1,Nat.lt_of_lt_of_le q.2 hn⟩,fun q x hx=>hx▸q.2⟩
section
variable {h h':H} {l:List Cm} {n b:Nat} {o o':AO}
theorem Sp.row(s:Sp h l)(hc:l[n]?=some (aD b o)):h.t.get b=some o:=(s.ok n _ hc).1
theorem Sp.uG(s:Sp h l)(hc:l[n]?=some (aD b o)):b<h.next:=(s.ok n _ hc).2
theorem Sp.put(s:Sp h l)(hc:l[n]?=some (aD b o))(o':AO):Sp ⟨h.next,h.t.set b o'⟩ (l.set n (aD b o')):=
 s.lq hc (Nat.le_refl _) (fun x _ hx=>by rw[T.ay,if_neg (show¬x=b from hx)]) ⟨by rw[T.ay,if_pos rfl],s.uG hc⟩ fun x hx=>.inl hx
theorem Sp.new(s:Sp h l)(o:AO):Sp ⟨h.next+1,h.t.set h.next o⟩ (aD h.next o::l):=
 s.cons (ae.new h o) ⟨by rw[T.ay,if_pos rfl],Nat.lt_succ_self _⟩ fun x hx=>Nat.le_of_eq (show x=h.next from hx).symm
end
def cA(M W:Nat)(lv:AV)(ws:List Int)(m:Nat):Cm:=⟨fun h=>∃l,l.length<=m/\mI h M W lv ws l,pG M W lv,fun hn k ⟨l,hl,q⟩=>⟨l,hl,q.aF hn k⟩,fun⟨l,_,q⟩ x hx=>by
 rcases hx with rfl|rfl|hx
 ·exact q.lM
 ·exact q.lW
 ·exact q.l.lt hx⟩
def cB(M W:Nat)(lv:AV)(ws:List Int)(m:Nat):Cm:=⟨fun h=>∃l,l.length<=m/\mS h M W lv ws l,pG M W lv,fun hn k ⟨l,hl,q⟩=>⟨l,hl,q.aF hn k⟩,fun⟨l,_,q⟩ x hx=>by
 rcases hx with rfl|rfl|hx
 ·exact q.lM
 ·exact q.lW
 ·exact q.l.lt hx⟩
section
variable {h h':H} {L:List Cm} {n:Nat} {M W:Nat} {lv:AV} {ws cz:List Int} {m:Nat}
theorem Sp.NM(s:Sp h L)(hc:L[n]?=some (cA M W lv ws m)){l:List iy}{a:iy}(hl:l.length<=m)(p:rG M W lv cz (l++[a]) h h'):∃dU,h.next<=h'.next/\Sp h' (L.set n (cA M W dU cz (m+1))):=by
 obtain⟨dU,q,lo,t⟩:=p;refine⟨dU,t.next,s.lq hc t.next t.old ⟨_,by rw[List.length_append];exact Nat.succ_le_succ hl,q⟩ fun b hb=>?_⟩;rcases hb with rfl|rfl|hb
 ·exact .inl (.inl rfl)
 ·exact .inl (.inr (.inl rfl))
 ·exact .inr (lo b hb)
theorem Sp.SS(s:Sp h L)(hc:L[n]?=some (cB M W lv ws m)){l:List iy}{a:iy}(hl:l.length<=m)(p:wh M W lv cz (l++[a]) h h'):∃dU,h.next<=h'.next/\Sp h' (L.set n (cB M W dU cz (m+1))):=by
 obtain⟨dU,q,lo,t⟩:=p;refine⟨dU,t.next,s.lq hc t.next t.old ⟨_,by rw[List.length_append];exact Nat.succ_le_succ hl,q⟩ fun b hb=>?_⟩;rcases hb with rfl|rfl|hb
 ·exact .inl (.inl rfl)
 ·exact .inl (.inr (.inl rfl))
 ·exact .inr (lo b hb)
end
end
end Go.Proofs.YtgkjlklfjbljeaaGreat.CQ
namespace Go.Proofs.YtgkjlklfjbljeaaGreat.CQ
open Go.Proofs.YtgkjlklfjbljeaaGreat.Eo
noncomputable section
variable(P:Program)[PT P]{call:ab}
@[go_sem]def c11:CF:=⟨2,(Sq [b 4 0] (Qq (Sq [a 5 1,D 6 3 5 1] (Kq 6 [b 4 0] .skip)) (Rq [a 7 0,a 8 1,zy 9 3 7 8,a 10 1,qg 11 3 9 10,a 12 1,zy 13 3 11 12,a 4 13]))),[.tmp 4]⟩
@[go_sem]def c31:CF:=⟨4,(Sq [z 4 33 0,w 8] (Qq (.cn ⟨[([R 0 4 0,k 1 9 0,g 3 1,g 4 2,g 5 3,R 7 4 1,k 8 16 7,n 9 17 8,m 10 18 9 1,k 11 19 10,g 12 1,g 13 2,g 14 3],some (Z 2 10 1 12)),([],some (qw 6 11 2 12 3 13 4 14 5 13)),([],some (qw 15 20 11 21 12 22 13 23 14 87)),([zi 16 15 6 24 15 41,t 17 25 16],none)],[(0,9),(1,10),(2,11),(3,12),(4,13),(5,14),(6,15),(7,16),(8,17),(9,18),(10,19),(11,20),(12,21),(13,22),(14,23),(15,24),(16,25),(17,8)],[(⟨8,[(16,(some 7))],none,.r (.ld none (.t 16))⟩,[1,2]),(⟨11,[(19,(some 10))],none,.r (.ld none (.t 19))⟩,[1,2])]⟩) .ret)),[.tmp 8]⟩
@[go_sem]def c12:CF:=⟨1,(Sq [p 2] (Qq (Sq [a 3 0,y 4 30 3] (Kq 4 [p 2] .skip)) (Rq [a 5 0,j 6 5,d 7 0 6,d 8 1 7,i 9 8,a 2 9]))),[.tmp 2]⟩
def bP(i n:Int):Int:=(i.tmod n+n).tmod n
theorem gq(i:Int){n:Int}(h:1<=n):0<=bP i n/\bP i n<n:=by
 have a1:-n<Int.tmod i n:=Int.lt_tmod_of_pos i (by omega);exact⟨Int.tmod_nonneg _ (by omega),Int.tmod_lt_of_pos _ (by omega)⟩
theorem w11(P:Program){call:ab}{h:H}(i n:Int)(h1:1<=n)(h2:n<=1000000):WF P call c11 [.int .i64 i,.int .i64 n] h fun v h'=>v=.int .i64 (bP i n)/\h'=h:=by
 have e1:¬n<1:=by omega
 have a1:-n<Int.tmod i n:=Int.lt_tmod_of_pos i (by omega);have a2:Int.tmod i n<n:=Int.tmod_lt_of_pos i (by omega);have f1:fw .i64 (Int.tmod i n+n)=Int.tmod i n+n:=aS (by omega) (by omega);have z:¬n=0:=by omega
 simp only[go_sem,seval,e1,f1,z];rfl
def NN(call:ab):Prop:=∀h (i n:Int),1<=n->n<=1000000->call 11 [.int .i64 i,.int .i64 n] h=some (.int .i64 (bP i n),h)
@[go_sem]def Zr:CF:=⟨1,(Sq [b 2 0] (Rq [a 3 0,j 4 3,d 5 5 4,i 6 5,N 7 6,ql 8 3 7 1,⟨some 9,none,.p (.mm true (.c (.int .i64 0)) [.t 8])⟩,a 2 9])),[.tmp 2]⟩
@[go_sem]def Zs:CF:=⟨4,(.cn ⟨[([g 0 0,g 1 0,n 2 9 1,m 3 10 2 6,k 4 11 3,g 5 0,g 7 1,g 8 2,g 9 3],some (Z 6 13 5 198)),([jz 10 14 6 15 7 16 8 17 9 0 0 0 0 0 1 1 1 2 1 3 1,jA 11 18 10 339 4 1 0 0 0 0 0 4],some (qJ 12 12 4 19 11 339 4 32)),([n 13 8 0,m 14 21 13 6],some (V 15 22 14 20 12 1)),([],none)],[(0,8),(1,9),(2,10),(3,11),(4,12),(5,13),(6,14),(7,15),(8,16),(9,17),(10,18),(11,19),(12,20),(13,21),(14,22)],[(⟨4,[(11,(some 3))],none,.r (.ld none (.t 11))⟩,[1])]⟩),[]⟩
theorem aiK{h:H}{B:Nat}{cs:List AV}(g:h.t.get B=some (ag cs 104))(h5:cs[5]?=some .ax):WF P call Zr [.ptr B 0] h fun v h'=>v=.int .i64 0/\h'=h:=by
 have f:fw .i64 (0-1)=-1:=rfl;have k:SU true (AV.int .i64 0) [AV.int .i64 (-1)]=some (.int .i64 0):=rfl;simp only[go_sem,↓reduceIte,reduceCtorEq,g,h5,f,k]
def SV(call:ab):Prop:=∀h B cs,h.t.get B=some (ag cs 104)->cs[5]?=some .ax->call 198 [.ptr B 0] h=some (.int .i64 0,h)
structure Zt where
 st:Int
 th:Int
 kd:Int
 va:Int
def evC(e:Zt):List AV:=[.int .i64 e.st,.int .i64 e.th,.int .u8 e.kd,.int .u64 e.va]
def tS(l:List Zt):List AV:=l.flatMap evC
theorem NP(l m:List Zt):tS (l++m)=tS l++tS m:=List.flatMap_append
theorem SW{HH:H}{lv:AV}{len:Nat}{cs src:List AV}{K:AV×H->Prop}(o:Own 4 339 HH lv len cs)(hs:src.length=4)(hl:len<=1000000)
 (hK:∀X:H,X.next=HH.next+1->Own 4 339 X (.sl HH.next 0 (len+1) 4 none) (len+1) (cs++src)->(∀b,b<HH.next->own lv≠some b->X.t.get b=HH.t.get b)->K (.sl HH.next 0 (len+1) 4 none,X)):@gw _ (ry HH 339 4 32 lv 1 src) ⟨K⟩:=
 b8 (du o (by decide) (by decide) (by omega) (by omega)) (hK _ rfl (eV o (by decide) hs) fun b hb hn=>cT hb hn)
theorem aiL(RX:SV call){h:H}{B:Nat}{cs:List AV}{ev:AV}{l:List Zt}(g:h.t.get B=some (ag cs 104))(lB:B<h.next)(hc:cs.length=9)(h5:cs[5]?=some .ax)(h6:cs[6]?=some ev)(oe:Own 4 339 h ev l.length (tS l))(nB:own ev≠some B)(hl:l.length<=1000000){t k v:Int}:
 WF P call Zs [.ptr B 0,.int .i64 t,.int .u8 k,.int .u64 v] h fun v' h'=>v'=.aE []/\∃Cd,h'.t.get B=some (ag (cs.set 6 Cd) 104)/\Own 4 339 h' Cd (l.length+1) (tS (l++[⟨0,t,k,v⟩]))/\own Cd≠some B/\(∀b,own Cd=some b->h.next<=b)/\Tch (fun b=>b=B\/own ev=some b) h h':=by
 have ov:=oe.one;have Jn:=RX h B cs g h5;have cr:=ae.new h (.row (aa 0 [.int .i64 0,.int .i64 t,.int .u8 k,.int .u64 v] T.e) 4 339);have ea:tS (l++[⟨0,t,k,v⟩])=tS l++[AV.int .i64 0,AV.int .i64 t,AV.int .u8 k,AV.int .u64 v]:=by rw[NP];rfl
 have B1:¬B=h.next:=by omega
 simp only[go_sem,seval,g,h6,Jn,hc,ov];refine SW (oe.aF cr.next fun b hb=>cr.old b (oe.lt hb)) rfl hl fun X nX oX kX=>?_
 replace nX:X.next=h.next+2:=nX;have AK:=kX B (by show B<h.next+1;omega) nB;simp only[go_sem,seval,B1,g]at AK;have Yn:h.next+1<=X.next:=by omega
 have gN:=kX h.next (by show h.next<h.next+1;omega) fun e=>absurd (oe.lt e) (Nat.lt_irrefl _)
 simp only[go_sem,seval]at gN;simp only[go_sem,seval,AK,g,B1,Yn,gN,hc,ov];refine⟨h6,.sl (h.next+1) 0 (l.length+1) 4 none,by unfold ag;rw[List.length_set,hc],?_,fun e=>?_,fun b hb=>?_,⟨by show h.next<=X.next;omega,fun b hb hn=>?_⟩⟩
 ·rw[ea];refine oX.aF (Nat.le_refl _) fun b hb=>?_
  have q1:h.next+1=b:=Option.some.inj hb;have q2:¬b=B:=by omega
  simp only[go_sem,seval,q2]
 ·have q1:h.next+1=B:=Option.some.inj e;omega
 ·have q1:h.next+1=b:=Option.some.inj hb;omega
 ·have q1:¬b=B:=fun e=>hn (.inl e)
  have q2:=kX b (by show b<h.next+1;omega) fun e=>hn (.inr e)
  have q3:¬b=h.next:=by omega
  simp only[go_sem,seval,q3]at q2;simp only[go_sem,seval,q1,q2]
@[go_sem]def Zu:CF:=⟨3,(Sq [qd 6 0,b 7 0] (Qq (Sq [a 10 0,a 11 1,a 12 2,Q 13 35 10 11 12,a 8 13] (Sq [a 14 8,A 15 41 14 0] (Kq 15 [a 16 8,qd 6 0,a 7 16] .skip))) (Sq [a 17 0,j 18 17,d 19 0 18,i 20 19,a 21 2,G 22 1 20 21,q 23 42 22,a 9 23] (Sq [a 24 0,a 25 1,a 26 2,a 27 9,a 28 9,zS 29 37 24 25 26 1 27 28] (Rq [a 30 9,a 6 30,b 7 0]))))),[.tmp 6,.tmp 7]⟩
@[go_sem]def Zv:CF:=⟨2,(Sq [qd 4 0] (Rq [a 5 0,j 6 5,d 7 0 6,a 8 1,M 9 300 7 8,a 4 9])),[.tmp 4]⟩
@[go_sem]def Zw:CF:=⟨4,(Sq [qd 8 0,b 9 0] (Qq (Sq [a 12 0,a 13 1,a 14 2,Q 15 35 12 13 14,a 10 15] (Sq [a 16 10,A 17 41 16 0] (Kq 17 [a 18 10,qd 8 0,a 9 18] .skip))) (Sq [a 19 0,j 20 19,d 21 0 20,i 22 21,a 23 2,G 24 1 22 23,a 25 3,M 26 299 24 25,a 11 26] (Sq [a 27 0,a 28 1,a 29 2,a 30 11,a 31 3,jj 32 50 30 31,a 33 11,zS 34 37 27 28 29 3 32 33] (Rq [a 35 11,a 8 35,b 9 0]))))),[.tmp 8,.tmp 9]⟩
def aG(call:ab)(f:FuncId)(args:List AV)(h:H)(Q:AV->H->Prop):Prop:=∃v h',call f args h=some (v,h')/\Q v h'
theorem AN{h:H}{a b:Nat}{c c':T AV}{n n':Nat}{e e':TypeId}(g:h.t.get a=some (.row c n e))(g':h.t.get b=some (.row c' n' e'))(dB:e≠e'):a≠b:=fun e1=>by
 subst e1;rw[g]at g';simp at g';exact dB g'.2.2
theorem kr{nu:List Int}{s:Nat}{x:Int}(hx:nu[s]?=some x):(uL nu)[s]?=some (.int .u64 x):=by unfold uL;rw[List.getElem?_map,hx];rfl
def Zx(call:ab):Prop:=∀h W i (x:Int),(∃cs n e,h.t.get W=some (.row (aa 0 cs T.e) n e)/\cs[i]?=some (.int .u64 x))->call 42 [.ptr W i] h=some (.int .u64 x,h)
theorem aiM(P:Program){call:ab}(Zm:Xo call)(aiN:Zx call)(Zn:Xp call){h:H}{M W:Nat}{lv:AV}{ws:List Int}{l:List iy}(m:mI h M W lv ws l)(hl:l.length<=1000000){t:Int}(t0:0<=t)(t1:t<64){i:Nat}{x:Int}(hx:ws[i]?=some x):
 WF P call Zu [.ptr M 0,.int .i64 t,.int .i64 (i:Int)] h fun v h'=>v=.aE [.int .u64 x,.int .i64 0]/\rG M W lv ws (l++[⟨t,(i:Int),1,x,x,false⟩]) h h':=by
 have hi:i<ws.length:=(List.getElem?_eq_some_iff.1 hx).1;have k1:=Zm h M W ws t (i:Int) m.mem;rw[if_neg (by omega),if_neg (by omega)]at k1;have k2:=aiN h W i x ⟨_,_,_,m.w,by rw[List.getElem?_map,hx];rfl⟩;have gM:=m.g;have e1:(i:Int)<(ws.length:Int):=by omega
 have k3:=Zn h M W lv _ l m hl ⟨t,(i:Int),1,x,x,false⟩;simp only[go_sem,seval,k1,gM,e1,Nat.mul_one,k2];refine af k3 fun v3 h3 p3=>?_
 obtain⟨rfl,p3⟩:=p3;simp only[go_sem,seval];exact p3
def sW(call:ab):Prop:=∀h M W lv ws l (t:Int) (i:Nat) (x:Int),mI h M W lv ws l->l.length<=1000000->0<=t->t<64->ws[i]?=some x->∃v h',call 169 [.ptr M 0,.int .i64 t,.int .i64 (i:Int)] h=some (v,h')/\(v=.aE [.int .u64 x,.int .i64 0]/\rG M W lv ws (l++[⟨t,(i:Int),1,x,x,false⟩]) h h')
def Jo(call:ab)(f:FuncId):Prop:=∀h W i (x d z:Int) cs n e,h.t.get W=some (.row (aa 0 cs T.e) n e)->cs[i]?=some (.int .u64 x)->i<n->fw .u64 (x+d)=z->call f [.ptr W i,.int .u64 d] h=some (.int .u64 z,⟨h.next,h.t.set W (.row (aa 0 (cs.set i (.int .u64 z)) T.e) n e)⟩)
theorem aiO(P:Program){call:ab}(aiP:Jo call 300){h:H}{W i:Nat}{x d z:Int}{cs:List AV}{n:Nat}{e:TypeId}(hg:h.t.get W=some (.row (aa 0 cs T.e) n e))(hi:cs[i]?=some (.int .u64 x))(hn:i<n)(hz:fw .u64 (x+d)=z):
 WF P call Zv [.ptr W i,.int .u64 d] h fun v h'=>v=.int .u64 z/\h'=⟨h.next,h.t.set W (.row (aa 0 (cs.set i (.int .u64 z)) T.e) n e)⟩:=by
 have k:=aiP h W i x d z cs n e hg hi hn hz;simp only[go_sem,seval,k]
theorem aiQ(P:Program){call:ab}(Zm:Xo call)(aiR:Jo call 299)(Zn:Xp call){h:H}{M W:Nat}{lv:AV}{ws:List Int}{l:List iy}(m:mI h M W lv ws l)(hl:l.length<=1000000){t:Int}(t0:0<=t)(t1:t<64){i:Nat}{x d:Int}(hx:ws[i]?=some x):
 WF P call Zw [.ptr M 0,.int .i64 t,.int .i64 (i:Int),.int .u64 d] h fun v h'=>v=.aE [.int .u64 (fw .u64 (x+d)),.int .i64 0]/\rG M W lv (ws.set i (fw .u64 (x+d))) (l++[⟨t,(i:Int),3,fw .u64 (fw .u64 (x+d) -d),fw .u64 (x+d),false⟩]) h h':=by
 have hi:i<ws.length:=(List.getElem?_eq_some_iff.1 hx).1;have k1:=Zm h M W ws t (i:Int) m.mem;rw[if_neg (by omega),if_neg (by omega)]at k1;have B9:(ws.map (AV.int .u64))[i]?=some (.int .u64 x):=by rw[List.getElem?_map,hx];rfl
 obtain⟨z,hz⟩:∃z,fw .u64 (x+d)=z:=⟨_,rfl⟩;have k2:=aiR h W i x d z _ _ _ m.w B9 (by rw[List.length_map];exact hi) hz;have gM:=m.g;have e1:(i:Int)<(ws.length:Int):=by omega
 have k3:=Zn _ M W lv _ l (m.set i z) hl ⟨t,(i:Int),3,fw .u64 (z-d),z,false⟩;rw[hz];simp only[go_sem,seval,k1,gM,e1,Nat.mul_one,k2];refine af k3 fun v3 h3 p3=>?_
 obtain⟨rfl,dU,m3,lo3,fW⟩:=p3;simp only[go_sem,seval];refine⟨dU,m3,lo3,fW.next,fun b hb hn=>?_⟩;rw[fW.old b hb hn];have e2:¬b=W:=fun e=>hn (.inr (.inl e))
 simp only[go_sem,seval,e2]
def Jp(call:ab):Prop:=∀h M W lv ws l (t:Int) (i:Nat) (x d:Int),mI h M W lv ws l->l.length<=1000000->0<=t->t<64->ws[i]?=some x->aG call 296 [.ptr M 0,.int .i64 t,.int .i64 (i:Int),.int .u64 d] h fun v h'=>v=.aE [.int .u64 (fw .u64 (x+d)),.int .i64 0]/\rG M W lv (ws.set i (fw .u64 (x+d))) (l++[⟨t,(i:Int),3,fw .u64 (fw .u64 (x+d) -d),fw .u64 (x+d),false⟩]) h h'
theorem G0(a b:Int):tT 0 (.int .i64 a) (.int .i64 b)=some (decide (a=b)):=by
 show cond true (some (yK a b)) none=_
 rw[gJ];rfl
end
end Go.Proofs.YtgkjlklfjbljeaaGreat.CQ
namespace Go.Proofs.YtgkjlklfjbljeaaGreat.CQ
open Go.Proofs.YtgkjlklfjbljeaaGreat.Eo
noncomputable section
@[go_sem]def Zy:CF:=⟨3,(Sq [w 6] (Rq [a 7 0,j 8 7,d 9 0 8,a 10 1,a 11 2,Q 12 206 9 10 11,a 6 12])),[.tmp 6]⟩
@[go_sem]def Zz:CF:=⟨5,(Sq [w 10,b 11 0] (Qq (Sq [a 15 0,a 16 1,a 17 2,Q 18 35 15 16 17,a 12 18] (Sq [a 19 12,A 20 41 19 0] (Kq 20 [a 21 12,w 10,a 11 21] .skip))) (Sq [a 22 0,j 23 22,d 24 0 23,i 25 24,a 26 2,G 27 1 25 26,q 28 42 27,a 13 28] (Sq [a 29 0,j 30 29,d 31 0 30,i 32 31,a 33 2,G 34 1 32 33,a 35 3,a 36 4,Q 37 197 34 35 36,a 14 37] (Sq [a 38 0,a 39 1,a 40 2,a 41 13,a 42 0,j 43 42,d 44 0 43,i 45 44,a 46 2,G 47 1 45 46,q 48 42 47,a 49 14,⟨some 50,none,.cv (.c (.fn (.func 37) [] [])) [.t 38,.t 39,.t 40,.c (.int .u8 4),.t 41,.t 48,.t 49]⟩] (Rq [a 51 14,a 10 51,b 11 0])))))),[.tmp 10,.tmp 11]⟩
@[go_sem]def ZA:CF:=⟨3,(Sq [qd 6 0,b 7 0] (Qq (Sq [a 10 0,a 11 1,a 12 2,Q 13 157 10 11 12,a 8 13] (Sq [a 14 8,A 15 41 14 0] (Kq 15 [a 16 8,qd 6 0,a 7 16] .skip))) (Sq [a 17 0,j 18 17,d 19 0 18,i 20 19,a 21 2,G 22 1 20 21,i 23 22,a 9 23] (Sq [a 24 0,a 25 1,a 26 2,a 27 9,zT 28 158 24 25 26 1 27] (Rq [a 29 9,a 6 29,b 7 0]))))),[.tmp 6,.tmp 7]⟩
@[go_sem]def ZB:CF:=⟨5,(Sq [w 10,b 11 0] (Qq (Sq [a 14 0,a 15 1,a 16 2,Q 17 157 14 15 16,a 12 17] (Sq [a 18 12,A 19 41 18 0] (Kq 19 [a 20 12,w 10,a 11 20] .skip))) (Sq [a 21 0,j 22 21,d 23 0 22,i 24 23,a 25 2,G 26 1 24 25,i 27 26,a 13 27] (Qq (Sq [a 28 13,a 29 3,q1 30 50 28 29] (Cq 30 (Sq [a 31 0,a 32 1,a 33 2,a 34 4,⟨some 35,none,.cv (.c (.fn (.func 158) [] [])) [.t 31,.t 32,.t 33,.c (.int .u8 4),.t 34,.c (.bool true)]⟩] (Rq [qn 10,b 11 0])) .skip)) (Sq [a 36 0,a 37 1,a 38 2,a 39 13,zT 40 158 36 37 38 4 39] (Rq [w 10,b 11 0])))))),[.tmp 10,.tmp 11]⟩
theorem Jq{l:List Int}{i:Nat}{x:Int}(h:l[i]?=some x):l.set i x=l:=by
 obtain⟨hi,e⟩:=List.getElem?_eq_some_iff.1 h;rw[←e];exact List.set_getElem_self hi
def NQ(call:ab)(f:FuncId):Prop:=∀h W i (x z:Int) cs n e,h.t.get W=some (.row (aa 0 cs T.e) n e)->cs[i]?=some (.int .u64 x)->i<n->call f [.ptr W i,.int .u64 x,.int .u64 z] h=some (.bool true,⟨h.next,h.t.set W (.row (aa 0 (cs.set i (.int .u64 z)) T.e) n e)⟩)
theorem aiS(P:Program){call:ab}(aiT:NQ call 206){h:H}{W i:Nat}{x z:Int}{cs:List AV}{n:Nat}{e:TypeId}(hg:h.t.get W=some (.row (aa 0 cs T.e) n e))(hi:cs[i]?=some (.int .u64 x))(hn:i<n):
 WF P call Zy [.ptr W i,.int .u64 x,.int .u64 z] h fun v h'=>v=.bool true/\h'=⟨h.next,h.t.set W (.row (aa 0 (cs.set i (.int .u64 z)) T.e) n e)⟩:=by
 have k:=aiT h W i x z cs n e hg hi hn;simp only[go_sem,seval,k]
def SX(call:ab)(f:FuncId)(h:H)(L:List Cm)(n M W:Nat)(cz:List Int)(m:Nat)(args:List AV)(v:AV):Prop:=∃h' dU,call f (.ptr M 0::args) h=some (v,h')/\h.next<=h'.next/\Sp h' (L.set n (cA M W dU cz (m+1)))
def SY(call:ab)(f:FuncId)(h:H)(L:List Cm)(n M W:Nat)(cz:List Int)(m:Nat)(args:List AV)(v:AV):Prop:=∃h' dU,call f (.ptr M 0::args) h=some (v,h')/\h.next<=h'.next/\Sp h' (L.set n (cB M W dU cz (m+1)))
section
variable {call:ab} {h:H} {L:List Cm} {n:Nat} {M W:Nat} {lv:AV} {ws:List Int} {m:Nat} {t:Int} {i:Nat} {x z:Int}
theorem D6.sp(k:D6 call)(s:Sp h L)(hc:L[n]?=some (cA M W lv ws m))(hm:m<=1000000)(t0:0<=t)(t1:t<64)(hx:ws[i]?=some x):SX call 13 h L n M W (ws.set i z) m [.int .i64 t,.int .i64 (i:Int),.int .u64 z] (.int .i64 0):=by
 obtain⟨l,hl,q⟩:=s.ok n _ hc;obtain⟨v,h',e,rfl,p⟩:=k h M W lv ws l t i x z q (by omega) t0 t1 hx;obtain⟨dU,s'⟩:=s.NM hc hl p;exact⟨h',dU,e,s'⟩
theorem Xq.sp(k:Xq call)(s:Sp h L)(hc:L[n]?=some (cB M W lv ws m))(hm:m<=1000000)(t0:0<=t)(t1:t<64)(hx:ws[i]?=some x):SY call 87 h L n M W (ws.set i z) m [.int .i64 t,.int .i64 (i:Int),.int .u64 z] (.int .i64 0):=by
 obtain⟨l,hl,q⟩:=s.ok n _ hc;obtain⟨v,h',e,rfl,p⟩:=k h M W lv ws l t i x z q (by omega) t0 t1 hx;obtain⟨dU,s'⟩:=s.SS hc hl p;exact⟨h',dU,e,s'⟩
theorem sW.sp(k:sW call)(s:Sp h L)(hc:L[n]?=some (cA M W lv ws m))(hm:m<=1000000)(t0:0<=t)(t1:t<64)(hx:ws[i]?=some x):SX call 169 h L n M W ws m [.int .i64 t,.int .i64 (i:Int)] (.aE [.int .u64 x,.int .i64 0]):=by
 obtain⟨l,hl,q⟩:=s.ok n _ hc;obtain⟨v,h',e,rfl,p⟩:=k h M W lv ws l t i x q (by omega) t0 t1 hx;obtain⟨dU,s'⟩:=s.NM hc hl p;exact⟨h',dU,e,s'⟩
def SZ(call:ab):Prop:=NQ call 197
theorem aiU(P:Program)(k35:Xo call)(NR:∀h W i (x:Int),(∃cs n e,h.t.get W=some (.row (aa 0 cs T.e) n e)/\cs[i]?=some (.int .u64 x))->call 42 [.ptr W i] h=some (.int .u64 x,h))(S0:SZ call)(k37:Xp call)
 (s:Sp h L) (hc:L[n]?=some (cA M W lv ws m)) (hm:m<=1000000) (t0:0<=t) (t1:t<64) (hx:ws[i]?=some x):
 WF P call Zz [.ptr M 0,.int .i64 t,.int .i64 (i:Int),.int .u64 x,.int .u64 z] h fun v h'=>v=.aE [.bool true,.int .i64 0]/\∃dU,h.next<=h'.next/\Sp h' (L.set n (cA M W dU (ws.set i z) (m+1))):=by
 obtain⟨l,hl,q⟩:=s.ok n _ hc;have hi:i<ws.length:=(List.getElem?_eq_some_iff.1 hx).1;have k1:=k35 h M W ws t (i:Int) q.mem;rw[if_neg (by omega),if_neg (by omega)]at k1;have B9:(ws.map (AV.int .u64))[i]?=some (.int .u64 x):=by rw[List.getElem?_map,hx];rfl
 have k2:=NR h W i x ⟨_,_,_,q.w,B9⟩;have k3:=S0 h W i x z _ _ _ q.w B9 (by rw[List.length_map];exact hi);have q1:=q.set i z;have k4:=NR _ W i z ⟨_,_,_,q1.w,by rw[List.getElem?_map,List.getElem?_set,if_pos rfl,if_pos hi];rfl⟩;have gM:=q.g;have MO:=q1.g;have e1:(i:Int)<(ws.length:Int):=by omega
 have k5:=k37 _ M W lv _ l q1 (by omega) ⟨t,(i:Int),4,x,z,true⟩;rw[List.length_set]at MO;simp only[go_sem,seval,k1,gM,e1,Nat.mul_one,k2,k3,MO,k4];refine af k5 fun v5 h5 p5=>?_
 obtain⟨rfl,dU,q5,lo5,CM⟩:=p5;simp only[go_sem,seval];refine s.NM hc hl ⟨dU,q5,lo5,CM.next,fun b hb hn=>?_⟩;rw[CM.old b hb hn];have e2:¬b=W:=fun e=>hn (.inr (.inl e))
 simp only[go_sem,seval,e2]
def Jr(call:ab):Prop:=∀h L n M W lv ws m (t:Int) (i:Nat) (x z:Int),Sp h L->L[n]?=some (cA M W lv ws m)->m<=1000000->0<=t->t<64->ws[i]?=some x->SX call 160 h L n M W (ws.set i z) m [.int .i64 t,.int .i64 (i:Int),.int .u64 x,.int .u64 z] (.aE [.bool true,.int .i64 0])
theorem aiW(P:Program)(Js:Jj call)(Jt:Jl call)(s:Sp h L)(hc:L[n]?=some (cB M W lv ws m))(hm:m<=1000000)(t0:0<=t)(t1:t<64)(hx:ws[i]?=some x):
 WF P call ZA [.ptr M 0,.int .i64 t,.int .i64 (i:Int)] h fun v h'=>v=.aE [.int .u64 x,.int .i64 0]/\∃dU,h.next<=h'.next/\Sp h' (L.set n (cB M W dU ws (m+1))):=by
 obtain⟨l,hl,q⟩:=s.ok n _ hc;have hi:i<ws.length:=(List.getElem?_eq_some_iff.1 hx).1;have k:=Js h M W ws lv t (i:Int) q.mem t0 t1 (by omega) (by omega);have gM:=q.g;have gW:=q.w;have B9:=kr hx;have e1:(i:Int)<(ws.length:Int):=by omega
 simp only[go_sem,seval,k,gM,gW,e1,Nat.mul_one,B9];refine af (Jt h M W lv ws l t i x x 1 false q (by omega) hx) fun v1 h1 p1=>?_
 obtain⟨rfl,p1⟩:=p1;have es:ws.set i x=ws:=Jq hx;rw[es]at p1;simp only[go_sem,seval];exact s.SS hc hl p1
def NS(call:ab):Prop:=∀h L n M W lv ws m (t:Int) (i:Nat) (x:Int),Sp h L->L[n]?=some (cB M W lv ws m)->m<=1000000->0<=t->t<64->ws[i]?=some x->SY call 145 h L n M W ws m [.int .i64 t,.int .i64 (i:Int)] (.aE [.int .u64 x,.int .i64 0])
theorem aiX(P:Program)(Js:Jj call)(Jt:Jl call)(s:Sp h L)(hc:L[n]?=some (cB M W lv ws m))(hm:m<=1000000)(t0:0<=t)(t1:t<64)(hx:ws[i]?=some x):
 WF P call ZB [.ptr M 0,.int .i64 t,.int .i64 (i:Int),.int .u64 x,.int .u64 z] h fun v h'=>v=.aE [.bool true,.int .i64 0]/\∃dU,h.next<=h'.next/\Sp h' (L.set n (cB M W dU (ws.set i z) (m+1))):=by
 obtain⟨l,hl,q⟩:=s.ok n _ hc;have hi:i<ws.length:=(List.getElem?_eq_some_iff.1 hx).1;have k:=Js h M W ws lv t (i:Int) q.mem t0 t1 (by omega) (by omega);have gM:=q.g;have gW:=q.w;have B9:=kr hx;have e1:(i:Int)<(ws.length:Int):=by omega
 simp only[go_sem,seval,k,gM,gW,e1,Nat.mul_one,B9];refine af (Jt h M W lv ws l t i x z 4 true q (by omega) hx) fun v1 h1 p1=>?_
 obtain⟨rfl,p1⟩:=p1;simp only[go_sem,seval];exact s.SS hc hl p1
def S1(call:ab):Prop:=∀h L n M W lv ws m (t:Int) (i:Nat) (x z:Int),Sp h L->L[n]?=some (cB M W lv ws m)->m<=1000000->0<=t->t<64->ws[i]?=some x->SY call 148 h L n M W (ws.set i z) m [.int .i64 t,.int .i64 (i:Int),.int .u64 x,.int .u64 z] (.aE [.bool true,.int .i64 0])
end
end
end Go.Proofs.YtgkjlklfjbljeaaGreat.CQ
namespace Go.Proofs.YtgkjlklfjbljeaaGreat.CQ
open Go.Proofs.YtgkjlklfjbljeaaGreat.Eo
noncomputable section
variable(P:Program)[PT P]{call:ab}
@[go_sem]def c33:CF:=⟨2,(Sq [b 4 0,b 5 0] (Qq (Sq [a 6 0,y 7 43 6] (Kq 7 [b 4 0,b 5 1] .skip)) (Qq (Sq [a 8 1,a 9 0,j 10 9,d 11 27 10,i 12 11,N 13 12,q7 14 34 8 1 13,qa 15 14] (Kq 15 [b 4 0,b 5 3] .skip)) (Rq [a 16 0,j 17 16,d 18 27 17,i 19 18,a 20 1,ql 21 3 20 1,G 22 1 19 21,i 23 22,a 4 23,b 5 0])))),[.tmp 4,.tmp 5]⟩
@[go_sem]def c10:CF:=⟨3,(Sq [b 6 0,b 7 0] (Qq (Sq [a 11 0,a 12 1,M 13 33 11 12,a 10 13,o 14 10 0,o 15 10 1,a 8 14,a 9 15] (Sq [a 16 9,A 17 41 16 0] (Kq 17 [a 18 9,b 6 0,a 7 18] .skip))) (Qq (Sq [a 19 2,q8 20 34 19 0 4,qa 21 20] (Kq 21 [b 6 0,b 7 3] .skip)) (Rq [a 22 0,j 23 22,d 24 28 23,i 25 24,a 26 1,ql 27 3 26 1,G 28 1 25 27,i 29 28,a 30 2,qg 31 3 29 30,a 6 31,b 7 0])))),[.tmp 6,.tmp 7]⟩
@[go_sem]def c91:CF:=⟨2,(Sq [b 4 0,w 5] (Sq [a 7 1,q2 8 3 (-1) 7,a 6 8] (Qq (.cn ⟨[([g 0 0,n 1 9 0,m 2 10 1 16,m 3 11 2 7,k 4 12 3,g 5 6,⟨6,[(14,some 5)],none,.p (.bin .mul 3 false true (.t 14) (.c (.int .i64 7)))⟩,qB 7 13 4 15 6 3,g 8 1,⟨9,[(17,some 8)],none,.p (.bin .lss 127 false true (.t 17) (.c (.int .i64 0)))⟩,t 10 18 9,qN 11 19 10 6 19,qN 12 19 10 0 19,⟨13,[(19,some 10),(21,some 12)],some (19,true),.p (.rp (.t 21))⟩,⟨14,[(19,some 10),(22,some 13)],some (19,true),.p (.uC 29 (.t 22))⟩,jB 15 19 10 23 14 19,⟨16,[(19,some 10),(20,some 11),(24,some 15)],some (19,true),.p (.bin .lss 3 false false (.t 20) (.t 24))⟩,q3 17 19 10 25 16,t 18 16 7,t 19 26 17],none)],[(0,9),(1,10),(2,11),(3,12),(4,13),(5,14),(6,15),(7,16),(8,17),(9,18),(10,19),(11,20),(12,21),(13,22),(14,23),(15,24),(16,25),(17,26),(18,4),(19,5)],[]⟩) .ret))),[.tmp 4,.tmp 5]⟩
@[go_sem]def c40:CF:=⟨3,(Sq [b 6 0,b 7 0] (Qq (Sq [a 12 0,y 13 43 12] (Kq 13 [b 6 0,b 7 1] .skip)) (Qq (Sq [a 15 0,a 16 1,M 17 91 15 16,a 14 17,o 18 14 0,o 19 14 1,a 8 18,a 9 19] (Sq [a 20 9,a 21 20,K 22 21 2,⟨some 23,some (21,true),.cv (.c (.fn (.func 34) [] [])) [.t 22,.c (.int .i64 0),.c (.int .i64 5)]⟩,O 24 21 23] (Kq 24 [a 25 8,C 26 3 25 1,a 27 2,qg 28 3 26 27,a 6 28,b 7 0] .skip))) (Qq (Sq [a 30 0,a 31 1,M 32 33 30 31,a 29 32,o 33 29 0,o 34 29 1,a 10 33,a 11 34] (Sq [a 35 11,qe 36 41 35 0,a 37 36,K 38 37 2,K 39 37 10,js 40 37 3 39 1,⟨some 41,some (37,true),.cv (.c (.fn (.func 34) [] [])) [.t 38,.c (.int .i64 0),.t 40]⟩,O 42 37 41] (Kq 42 [a 43 0,j 44 43,d 45 28 44,i 46 45,a 47 1,ql 48 127 47 1,G 49 1 46 48,i 50 49,C 51 3 50 5,a 52 2,qg 53 3 51 52,a 6 53,b 7 0] .skip))) (Rq [b 6 0,b 7 3]))))),[.tmp 6,.tmp 7]⟩
structure LB(c:aj):Prop where
 lay:fU c
 Ce:(aH c).length<=60
abbrev ir(c:aj):Int:=db c.kind c.n c.aI
abbrev nO(c:aj):List Int:=Cx (aA c).tw (aH c)
theorem LB.val{c:aj}(b:LB c):1<=ir c/\ir c<=64:=by
 obtain⟨hT,Ib,mL,IG,IH,iD,oU,hd,Eh,MZ,II⟩:=b.lay;exact Az hd
theorem LB.dq{c:aj}(b:LB c):0<=c.aq/\c.aq+bD c+1+c.bY*3+c.bY+6<=(aA c).li/\(aA c).li=(aA c).po+6/\(aA c).he=(aA c).li+((aH c).length:Int)/\(aA c).tw=(aA c).he+ir c*7/\(aA c).wo=(aA c).tw+eB (aH c)/\(aA c).wo<=5000/\0<=eB (aH c)/\c.aq+bD c<(aA c).po/\1<=bD c/\1<=c.bY:=by
 have hv:=b.val;have hE:=tR b.lay;obtain⟨hT,Ib,mL,IG,IH,iD,oU,hd,Eh,MZ,II⟩:=b.lay;have hs:=nJ (aH c) dh;have:=b.Ce;unfold ir at hv;simp only[aA,MY,ir];refine⟨?_,?_,?_,?_,?_,?_,?_,?_,?_,?_,?_⟩<;>first|trivial|omega
theorem vh:∀(hs:List Int) (a:Int) (i:Nat) (x:Int),(∀x∈hs,1<=x)->hs[i]?=some x->∃y,(Cx a hs)[i]?=some y/\a<=y/\y+5+x<=a+eB hs/\0<=eB hs
 | [],_,i,x,_,h=>by simp at h
 |z::l,a,i,x,hp,h=>by
  have hz:=hp z (List.mem_cons_self ..);have hl:∀l:List Int,(∀x∈l,1<=x)->0<=eB l:=fun l=>by
   induction l with
   |nil=>intro _;exact Int.le_refl _
   |cons y l ih=>intro q;have:=ih fun x hx=>q x (List.mem_cons_of_mem _ hx);have:=q y (List.mem_cons_self ..);unfold eB;omega
  have h0:=hl l fun x hx=>hp x (List.mem_cons_of_mem _ hx)
  cases i with
  |zero=>
   obtain rfl:z=x:=Option.some.inj h;exact⟨a,rfl,Int.le_refl _,by unfold eB;omega,by unfold eB;omega⟩
  |succ i=>
   obtain⟨y,h1,h2,h3,h4⟩:=vh l (a+(5+z)) i x (fun x hx=>hp x (List.mem_cons_of_mem _ hx)) h;exact⟨y,h1,by omega,by unfold eB;omega,by unfold eB;omega⟩
theorem LB.tw{c:aj}(b:LB c){i:Nat}{x:Int}(hx:(aH c)[i]?=some x):∃y,(nO c)[i]?=some y/\(aA c).tw<=y/\y+5+x<=(aA c).wo/\1<=x/\x<=6/\i<60:=by
 obtain⟨y,h1,h2,h3,_⟩:=vh _ (aA c).tw i x (fun x hx=>(dh x hx).1) hx;obtain⟨_,_,_,_,_,q,_⟩:=b.dq;have:=dh x (List.mem_of_getElem? hx);have:=(List.getElem?_eq_some_iff.1 hx).1;have:=b.Ce;exact⟨y,h1,h2,by omega,by omega,by omega,by omega⟩
theorem cm.Xt{h:H}{v:AV}{xs:List AV}(r:cm none 1 h v xs){i:Nat}{x:AV}(hx:xs[i]?=some x):∃a o cap,v=.sl a o xs.length 1 cap/\uT h.t.get none a (o+i)=some x:=by
 rcases r with⟨rfl,rfl⟩|⟨a,o,cap,rfl,_,k⟩
 ·simp at hx
 ·exact⟨a,o,cap,rfl,by have:=k i x hx;rwa [Nat.mul_one]at this⟩
theorem sX{l:List Int}{i:Nat}{x:Int}(h:l[i]?=some x):(iL l)[i]?=some (.int .i64 x):=by unfold iL;rw[List.getElem?_map,h];rfl
theorem gU(l:List Int):(iL l).length=l.length:=List.length_map ..
def ZC(call:ab):Prop:=∀h (n a b:Int),call 34 [.int .i64 n,.int .i64 a,.int .i64 b] h=some (.bool (decide (a<=n/\n<=b)),h)
theorem w33(NT:ZC call){h:H}{L:Nat}{c:aj}{p:kG}{hs:List Int}(hL:eU h L c p hs){i:Nat}{x:Int}(hx:hs[i]?=some x)(hi:i<1000):WF P call c33 [.ptr L 0,.int .i64 ((i:Int)+1)] h fun v h'=>v=.aE [.int .i64 x,.int .i64 0]/\h'=h:=by
 obtain⟨cv,gv,hv,tv,val,g,r1,r2,r3,r4,o1,o2,o3⟩:=hL.ex;obtain⟨a,o,cap,rfl,rd⟩:=r3.Xt (sX hx);rw[gU]at g;have hl:=(List.getElem?_eq_some_iff.1 hx).1;have k:=NT h ((i:Int)+1) 1 (hs.length:Int);rw[decide_eq_true (by omega)]at k;have f1:fw .i64 ((i:Int)+1-1)=(i:Int):=by rw[show(i:Int)+1-1=(i:Int) by omega];exact aS (by omega) (by omega)
 have e1:(i:Int)<(hs.length:Int):=by omega
 simp only[go_sem,seval,g,au,cb,k,f1,e1,Nat.mul_one,rd]
def Xu(call:ab):Prop:=∀h L c p hs (i:Nat) (x:Int),eU h L c p hs->hs[i]?=some x->i<1000->call 33 [.ptr L 0,.int .i64 ((i:Int)+1)] h=some (.aE [.int .i64 x,.int .i64 0],h)
theorem w10(NU:Xu call)(NT:ZC call){h:H}{L:Nat}{c:aj}(hL:eU h L c (aA c) (aH c))(b:LB c){i:Nat}{x:Int}(hx:(aH c)[i]?=some x){y:Int}(hy:(nO c)[i]?=some y){w:Nat}(hw:w<5):WF P call c10 [.ptr L 0,.int .i64 ((i:Int)+1),.int .i64 (w:Int)] h fun v h'=>v=.aE [.int .i64 (y+(w:Int)),.int .i64 0]/\h'=h:=by
 obtain⟨y',sV,y0,y1,_,_,i60⟩:=b.tw hx;obtain rfl:y'=y:=Option.some.inj (sV.symm.trans hy);obtain⟨n1,n2,n3,n4,n5,n6,n7,n8,n9,rH,rI⟩:=b.dq;have k:=NU h L c _ _ i x hL hx (by omega);obtain⟨cv,gv,hv,tv,val,g,r1,r2,r3,r4,o1,o2,o3,r5,r6⟩:=hL.ex;obtain⟨a,o,cap,rfl,rd⟩:=r5.Xt (sX hy);rw[gU]at g;have hl:=(List.getElem?_eq_some_iff.1 hy).1;have k4:=NT h (w:Int) 0 4;rw[decide_eq_true (by omega)]at k4;have f1:fw .i64 ((i:Int)+1-1)=(i:Int):=by rw[show(i:Int)+1-1=(i:Int) by omega];exact aS (by omega) (by omega)
 have hv:=b.val;have f2:fw .i64 (y'+(w:Int))=y'+(w:Int):=aS (by omega) (by omega);have e1:(i:Int)<((nO c).length:Int):=by omega
 simp only[go_sem,seval,g,au,cb,k,k4,f1,f2,e1,Nat.mul_one,rd]
def S2(call:ab):Prop:=∀h L c (i:Nat) (x y:Int) (w:Nat),eU h L c (aA c) (aH c)->LB c->(aH c)[i]?=some x->(nO c)[i]?=some y->w<5->call 10 [.ptr L 0,.int .i64 ((i:Int)+1),.int .i64 (w:Int)] h=some (.aE [.int .i64 (y+(w:Int)),.int .i64 0],h)
theorem w91{h:H}{L:Nat}{c:aj}(hL:eU h L c (aA c) (aH c))(b:LB c){r:Int}(r0:-1000<=r)(r1:r<=1000):WF P call c91 [.ptr L 0,.int .i64 r] h fun v h'=>v=.aE [.int .i64 ((aA c).he+(-1-r)*7),.bool (decide (r<0/\-1-r<ir c))]/\h'=h:=by
 obtain⟨n1,n2,n3,n4,n5,n6,n7,n8,n9,rH,rI⟩:=b.dq;have hv:=b.val;obtain⟨cv,gv,hv,tv,val,g,r1,r2,r3,r4,o1,o2,rfl,r5,r6⟩:=hL.ex;have f1:fw .i64 (-1-r)=-1-r:=aS (by omega) (by omega);have f2:fw .i64 ((-1-r)*7)=(-1-r)*7:=aS (by omega) (by omega);have f3:fw .i64 ((aA c).he+(-1-r)*7)=(aA c).he+(-1-r)*7:=aS (by omega) (by omega)
 by_cases e0:r<0
 ·by_cases e1:-1-r<ir c
  ·unfold ir at e1;simp only[go_sem,seval,g,au,cb,f1,f2,f3,e0,e1]
  ·unfold ir at e1;simp only[go_sem,seval,g,au,cb,f1,f2,f3,e0,e1]
 ·simp only[go_sem,seval,g,au,cb,f1,f2,f3,e0]
def kD(c:aj)(r k:Int):Int:=if r<0 then(aA c).he+(-1-r)*7+1+k else((nO c)[(r-1).toNat]?.getD 0)+5+k
def Nd(c:aj)(r k:Int):Prop:=(r<0/\-1-r<ir c/\0<=k/\k<6)\/∃(i:Nat) (x:Int),r=(i:Int)+1/\(aH c)[i]?=some x/\0<=k/\k<x
def F91(call:ab):Prop:=∀h L c (r:Int),eU h L c (aA c) (aH c)->LB c->-1000<=r->r<=1000->call 91 [.ptr L 0,.int .i64 r] h=some (.aE [.int .i64 ((aA c).he+(-1-r)*7),.bool (decide (r<0/\-1-r<ir c))],h)
theorem w40(NU:Xu call)(NT:ZC call)(k91:F91 call){h:H}{L:Nat}{c:aj}(hL:eU h L c (aA c) (aH c))(b:LB c){r k:Int}(hn:Nd c r k):WF P call c40 [.ptr L 0,.int .i64 r,.int .i64 k] h fun v h'=>v=.aE [.int .i64 (kD c r k),.int .i64 0]/\h'=h:=by
 obtain⟨n1,n2,n3,n4,n5,n6,n7,n8,n9,rH,rI⟩:=b.dq;have hv:=b.val;have D7:=b.Ce;rcases hn with⟨r0,r1,q0,q1⟩|⟨i,x,rfl,hx,q0,q1⟩
 ·have k1:=k91 h L c r hL b (by omega) (by omega);rw[decide_eq_true ⟨r0,r1⟩]at k1;have k2:=NT h k 0 5;rw[decide_eq_true (by omega)]at k2;have f1:fw .i64 ((aA c).he+(-1-r)*7+1)=(aA c).he+(-1-r)*7+1:=aS (by omega) (by omega);have f2:fw .i64 ((aA c).he+(-1-r)*7+1+k)=(aA c).he+(-1-r)*7+1+k:=aS (by omega) (by omega);simp only[go_sem,seval,k1,k2,f1,f2,kD,r0]
 ·obtain⟨y,hy,y0,y1,_,x6,i60⟩:=b.tw hx;have k1:=k91 h L c ((i:Int)+1) hL b (by omega) (by omega);rw[decide_eq_false (by omega)]at k1;have k2:=NT h k 0 (x-1);rw[decide_eq_true (by omega)]at k2;have k3:=NU h L c _ _ i x hL hx (by omega);obtain⟨cv,gv,hv,tv,val,g,r1,r2,r3,r4,o1,o2,o3,r5,r6⟩:=hL.ex;obtain⟨a,o,cap,rfl,rd⟩:=r5.Xt (sX hy);rw[gU]at g;have hl:=(List.getElem?_eq_some_iff.1 hy).1;have f1:fw .i64 ((i:Int)+1-1)=(i:Int):=by rw[show(i:Int)+1-1=(i:Int) by omega];exact aS (by omega) (by omega)
  have f0:fw .i64 (x-1)=x-1:=aS (by omega) (by omega);have f2:fw .i64 (y+5)=y+5:=aS (by omega) (by omega);have f3:fw .i64 (y+5+k)=y+5+k:=aS (by omega) (by omega);have e1:(i:Int)<((nO c).length:Int):=by omega
  have e2:¬(i:Int)+1<0:=by omega
  have e3:((i:Int)+1-1).toNat=i:=by omega
  have e4:(nO c)[i]?.getD 0=y:=by rw[hy];rfl
  simp only[go_sem,seval,k1,k2,k3,g,au,cb,f0,f1,f2,f3,e1,Nat.mul_one,rd,kD,e2,e3,e4]
def Xv(call:ab):Prop:=∀h L c (r k:Int),eU h L c (aA c) (aH c)->LB c->Nd c r k->call 40 [.ptr L 0,.int .i64 r,.int .i64 k] h=some (.aE [.int .i64 (kD c r k),.int .i64 0],h)
def vi:CC:=(Qq (Sq [a 9 6,a 10 0,j 11 10,d 12 27 11,i 13 12,N 14 13,qc 15 3 9 14] (Cq 15 .skip (.exit 0))) (Qq (.block 1 (Qq (.cn ⟨[([g 0 0,n 1 18 0,m 2 19 1 27,k 3 20 2,g 4 6,Y 5 21 3 22 4 3,zN 6 23 5 3,qt 7 3 3,zi 8 24 6 25 7 296],none)],[(0,18),(1,19),(2,20),(3,21),(4,22),(5,23),(6,24),(7,25),(8,26)],[]⟩) (Kq 26 [a 27 6,a 4 27,b 5 0] .skip))) (Oq [a 16 6,C 17 3 16 1,a 6 17])))
@[go_sem]def ZD:CF:=⟨2,(Sq [z 3 296 1,b 4 0,b 5 0] (Qq (Sq [a 7 0,y 8 88 7] (Kq 8 [b 4 0,b 5 1] .skip)) (Qq (Sq [b 6 0] (.block 0 (.loop vi))) (Rq [b 4 0,b 5 3])))),[.tmp 4,.tmp 5]⟩
@[go_sem]def S3:CF:=⟨3,(Sq [b 6 0,b 7 0] (Qq (Sq [a 8 0,zU 9 88 8,a 10 9,K 11 10 2,qy 12 10 3 11 0,K 13 10 12,r 14 13 2,qb 15 13 3 14 4,za 16 10 13 15,O 17 10 16] (Kq 17 [b 6 0,b 7 3] .skip)) (Rq [a 18 0,a 19 1,a 20 2,zV 21 0 0 0 0 1 9 1 1 19 2 1 20,M 22 153 18 21,o 23 22 0,o 24 22 1,a 6 23,a 7 24]))),[.tmp 6,.tmp 7]⟩
@[go_sem]def c84:CF:=⟨3,(Sq [b 6 0,b 7 0] (Qq (Sq [a 8 0,zU 9 88 8,a 10 9,K 11 10 2,qy 12 10 3 11 0,K 13 10 12,r 14 13 2,qk 15 13 3 14 6,za 16 10 13 15,K 17 10 16,r 18 17 1,zj 19 17 127 18 0,za 20 10 17 19,O 21 10 20] (Kq 21 [b 6 0,b 7 3] .skip)) (Qq (Sq [a 22 1,qW 23 127 22 0] (Kq 23 [a 24 0,a 25 1,a 26 2,qX 27 3 5 26,zV 28 0 0 0 0 1 9 1 1 25 2 1 27,M 29 153 24 28,o 30 29 0,o 31 29 1,a 6 30,a 7 31] .skip)) (Rq [a 32 0,a 33 1,q2 34 3 (-1) 33,a 35 2,qX 36 3 1 35,zV 37 0 0 0 0 1 8 1 1 34 2 1 36,M 38 153 32 37,o 39 38 0,o 40 38 1,a 6 39,a 7 40])))),[.tmp 6,.tmp 7]⟩
class PF(P:Program):Prop extends PT P where
 QD:∀k a b k' a' b',bT P .eql 296 false false (.agg [.int .u8 k,.int .i64 a,.int .i64 b]) (.agg [.int .u8 k',.int .i64 a',.int .i64 b'])=some (.bool (decide ((k,a,b)=(k',a',b'))))
 ZE:∀n:Int,bT P .eql 66 false false (.agg [.int .i64 0,.bool false,.int .u64 0,.int .u64 0,.int .i64 n]) (.agg [.int .i64 0,.bool false,.int .u64 0,.int .u64 0,.int .i64 n])=some (.bool true)
 exA:∀(g:Nat->Option AO) (G:Nat),cH P g 8 238 (.agg [.dR 232 (.ptr G 0)]) "Exit"=some (271,.ptr G 0)
 exB:∀(g:Nat->Option AO) (G:Nat),cH P g 8 245 (.agg [.dR 239 (.ptr G 0)]) "Exit"=some (282,.ptr G 0)
 exC:∀(g:Nat->Option AO) (G:Nat),cH P g 8 252 (.agg [.dR 246 (.ptr G 0)]) "Exit"=some (291,.ptr G 0)
 S4:∀a b,bT P .neq 4 false false (.bool a) (.bool b)=some (.bool (a !=b))
def aL{α:Type}(C:α->List AV)(l:List α):List AV:=l.map fun a=>.agg (C a)
theorem yM{α:Type}{C:α->List AV}{k:Nat}(hC:∀a,(C a).length=k):∀(l:List α) (i:Nat) (x:α),l[i]?=some x->((l.flatMap C).drop (i*k)).take k=C x
 | [],i,x,h=>by simp at h
 |a::l,0,x,h=>by
  obtain rfl:a=x:=by simpa using h
  rw[Nat.zero_mul,List.drop_zero,List.flatMap_cons,List.take_left' (hC a)]
 |a::l,i+1,x,h=>by
  have:=yM hC l i x (by simpa using h);rw[List.flatMap_cons,Nat.succ_mul,Nat.add_comm (i*k) k,←List.drop_drop,List.drop_left' (hC a)];exact this
theorem CN{α:Type}{C:α->List AV}{k:Nat}(hC:∀a,(C a).length=k):∀l:List α,(l.flatMap C).length=l.length*k
 | []=>by simp
 |a::l=>by rw[List.flatMap_cons,List.length_append,CN hC l,hC,List.length_cons,Nat.succ_mul,Nat.add_comm]
theorem NV{α:Type}{C:α->List AV}{k:Nat}(hC:∀a,(C a).length=k){e:TypeId}{h:H}{v:AV}{l:List α}(o:Own k e h v l.length (l.flatMap C))(hl:l.length<=281474976710656):cm (some k) k h v (aL C l):=by
 have la:(aL C l).length=l.length:=List.length_map _;generalize hn:l.length=n at*;generalize hc:l.flatMap C=cs at*;cases o with
 |nil=>exact .inl ⟨rfl,by rw[List.length_eq_zero_iff.1 la]⟩
 |sl a len cs cap Cv hp iT ha hg=>
  refine .inr ⟨a,0,cap,by rw[la],by omega,fun i x hx=>?_⟩;unfold aL at hx;rw[List.getElem?_map]at hx;obtain⟨y,hy,rfl⟩:∃y,l[i]?=some y/\AV.agg (C y)=x:=by
   cases hq:l[i]? with
   |none=>rw[hq]at hx;cases hx
   |some y=>rw[hq]at hx;exact⟨y,rfl,Option.some.inj hx⟩
  have hi:=(List.getElem?_eq_some_iff.1 hy).1;have hp:=yM hC l i y hy;rw[hc]at hp;unfold uT;rw[hg]
  show(match bh (aa 0 cs T.e) (0+i*k) k with|some l=>some (AV.agg l)|none=>none)=_
  have hle:i*k+k<=cs.length:=by
   rw[iT,←Nat.succ_mul];exact Nat.mul_le_mul_right k (by omega)
  rw[Nat.zero_add,j8,if_pos (.inl hle),hp]
theorem NW{α:Type}{C:α->List AV}{k:Nat}{h:H}{v:AV}{l:List α}{i:Nat}{x:α}(r:cm (some k) k h v (aL C l))(hx:l[i]?=some x):∃a o cap,v=.sl a o l.length k cap/\uT h.t.get (some k) a (o+i*k)=some (.agg (C x)):=by
 have la:(aL C l).length=l.length:=List.length_map _;rcases r with⟨_,e⟩|⟨a,o,cap,e,_,g⟩
 ·rw[e]at la;have:=(List.getElem?_eq_some_iff.1 hx).1;simp at la;omega
 ·exact⟨a,o,cap,by rw[e,la],g i _ (by unfold aL;rw[List.getElem?_map,hx];rfl)⟩
def Em(q:Int×Int×Int):List AV:=[.int .u8 q.1,.int .i64 q.2.1,.int .i64 q.2.2]
structure iX(h:H)(L:Nat)(c:aj)(cv hv wv:AV):Prop where
 g:h.t.get L=some (ag (au c cv++(cb (aA c)++[hv,wv])) 87)
 rd:cm none 1 h cv (uL c.aI)
 rh:cm none 1 h hv (iL (aH c))
 rw:cm (some 3) 3 h wv (aL Em (dF c (aH c)))
 lt:∀b,b=L\/own cv=some b\/own hv=some b\/own wv=some b->b<h.next
theorem iX.aF{h h':H}{L:Nat}{c:aj}{cv hv wv:AV}(m:iX h L c cv hv wv)(hn:h.next<=h'.next)(k:∀b,b<h.next->(b=L\/own cv=some b\/own hv=some b\/own wv=some b)->h'.t.get b=h.t.get b):iX h' L c cv hv wv:=
 ⟨(k L (m.lt L (.inl rfl)) (.inl rfl)).trans m.g,m.rd.aF fun b hb=>k b (m.lt b (.inr (.inl hb))) (.inr (.inl hb)),m.rh.aF fun b hb=>k b (m.lt b (.inr (.inr (.inl hb)))) (.inr (.inr (.inl hb))),m.rw.aF fun b hb=>k b (m.lt b (.inr (.inr (.inr hb)))) (.inr (.inr (.inr hb))),fun b hb=>Nat.lt_of_lt_of_le (m.lt b hb) hn⟩
theorem iX.step{h h':H}{L:Nat}{c:aj}{cv hv wv:AV}(m:iX h L c cv hv wv)(s:ae h h'):iX h' L c cv hv wv:=m.aF s.next fun b lb _=>s.old b lb
def Mm(L:Nat)(c:aj)(cv hv wv:AV):Cm:=⟨fun h=>iX h L c cv hv wv,fun b=>b=L\/own cv=some b\/own hv=some b\/own wv=some b,fun hn k m=>m.aF hn k,fun m=>m.lt⟩
def Giv(call:ab)(f:FuncId)(args:List AV)(h:H)(v:AV):Prop:=aG call f args h fun v' h'=>v'=v/\ae h h'
def ku(l:PL)(q:Int×Int×Int)(i:Nat):Prop:=l[i]?=some q/\∀j,j<i->l[j]?≠some q
def S5(h1:H)(L B i:Nat)(k:Nat)(tm:T AV)(h:H):Prop:=tm.get 0=some (.ptr L 0)/\tm.get 3=some (.ptr B 0)/\h=h1/\∃j:Nat,j+k=i/\tm.get 6=some (.int .i64 (j:Int))
theorem NX(P:Program)[pf:PF P]{call:ab}{h1:H}{L B:Nat}{c:aj}{cv hv wv:AV}(m:iX h1 L c cv hv wv){q:Int×Int×Int}(hl:(dF c (aH c)).length<=100000)(gB:h1.t.get B=some (ag (Em q) 296)){i:Nat}(hi:ku (dF c (aH c)) q i)(k:Nat)(tm:T AV)(h:H)(hI:S5 h1 L B i k tm h):
 WC P call vi (bM 0 (fun tm h=>∃j,j<k/\S5 h1 L B i j tm h) (fun _ _=>False) (fun tm h=>h=h1/\tm.get 4=some (.int .i64 (i:Int))/\tm.get 5=some (.int .i64 0))) tm h:=by
 obtain⟨t0,t3,rfl,j,hjk,t6⟩:=hI;have Nw:=(List.getElem?_eq_some_iff.1 hi.1).1;obtain⟨x,hx⟩:∃x,(dF c (aH c))[j]?=some x:=⟨_,List.getElem?_eq_getElem (by omega)⟩;have gL:=m.g;obtain⟨a,o,cap,rfl,rd⟩:=NW m.rw hx;have e1:(j:Int)<((dF c (aH c)).length:Int):=by omega
 obtain⟨x1,x2,x3⟩:=x;obtain⟨q1,q2,q3⟩:=q;have eqq:=pf.QD x1 x2 x3 q1 q2 q3;simp only[Em]at rd gB;rw[ko]at rd;cases k with
 |zero=>
  obtain rfl:j=i:=by omega
  have e2:=Option.some.inj (hx.symm.trans hi.1);rw[decide_eq_true e2]at eqq;simp only[go_sem,seval,vi,t0,t3,t6,gL,gB,au,cb,e1,rd,eqq]
 |succ k=>
  have e2:¬(x1,x2,x3)=(q1,q2,q3):=fun e=>hi.2 j (by omega) (by rw[hx,e])
  rw[decide_eq_false e2]at eqq;have f1:fw .i64 ((j:Int)+1)=(j:Int)+1:=aS (by omega) (by omega);have e3:((j+1:Nat):Int)=(j:Int)+1:=rfl;simp only[go_sem,seval,vi,t0,t3,t6,gL,gB,au,cb,e1,rd,eqq,f1];exact⟨k,Nat.lt_succ_self k,by simp[go_sem,t0],by simp[go_sem,t3],rfl,j+1,by omega,by simp[go_sem,e3]⟩
theorem ai1(P:Program)[PF P]{call:ab}{h:H}{L:Nat}{c:aj}{cv hv wv:AV}(m:iX h L c cv hv wv){q:Int×Int×Int}(hl:(dF c (aH c)).length<=100000){i:Nat}(hi:ku (dF c (aH c)) q i):
 WF P call ZD [.ptr L 0,.agg [.int .u8 q.1,.int .i64 q.2.1,.int .i64 q.2.2]] h fun v h'=>v=.aE [.int .i64 (i:Int),.int .i64 0]/\ae h h':=by
 have st:=ae.new h (ag (Em q) 296);simp only[go_sem,seval];refine aT (S5 _ L h.next i) _ _ (fun k tm h' hI=>NX P (m.step st) hl (by simp[go_sem]) hi k tm h' hI) (fun _ _ hh=>hh.elim) (fun dC h2 hS=>?_) i _ _
  ⟨by simp[go_sem],by simp[go_sem],rfl,0,by omega,by simp[go_sem]⟩
 obtain⟨rfl,t4,t5⟩:=hS;simp only[go_sem,seval,t4,t5];exact st
def G1(call:ab):Prop:=∀h L c cv hv wv (q:Int×Int×Int) (i:Nat),iX h L c cv hv wv->(dF c (aH c)).length<=100000->ku (dF c (aH c)) q i->Giv call 153 [.ptr L 0,.agg [.int .u8 q.1,.int .i64 q.2.1,.int .i64 q.2.2]] h (.aE [.int .i64 (i:Int),.int .i64 0])
theorem ai2(P:Program)[PF P]{call:ab}(yj:G1 call){h:H}{L:Nat}{c:aj}{cv hv wv:AV}(m:iX h L c cv hv wv)(hl:(dF c (aH c)).length<=100000){t w:Int}(w0:0<=w)(w1:w<=4){i:Nat}(hi:ku (dF c (aH c)) (9,t,w) i):
 WF P call S3 [.ptr L 0,.int .i64 t,.int .i64 w] h fun v h'=>v=.aE [.int .i64 (i:Int),.int .i64 0]/\ae h h':=by
 have e1:¬w<0:=by omega
 have e2:¬4<w:=by omega
 simp only[go_sem,seval,e1,e2];refine af (yj h L c cv hv wv (9,t,w) i m hl hi) fun v1 h1 p1=>?_
 obtain⟨rfl,st⟩:=p1;simp only[go_sem,seval];exact st
theorem w84(P:Program)[PF P]{call:ab}(yj:G1 call){h:H}{L:Nat}{c:aj}{cv hv wv:AV}(m:iX h L c cv hv wv)(hl:(dF c (aH c)).length<=100000){r k:Int}(r0:-1000<=r)(r1:r<=1000)(rz:r≠0)(k0:0<=k)(k6:k<6){i:Nat}(hi:ku (dF c (aH c)) (if 0<r then(9,r,5+k)else(8,-1-r,1+k)) i):
 WF P call c84 [.ptr L 0,.int .i64 r,.int .i64 k] h fun v h'=>v=.aE [.int .i64 (i:Int),.int .i64 0]/\ae h h':=by
 have e1:¬k<0:=by omega
 have e2:¬6<=k:=by omega
 by_cases e3:0<r
 ·rw[if_pos e3]at hi;have f1:fw .i64 (5+k)=5+k:=aS (by omega) (by omega);simp only[go_sem,seval,e1,k6,rz,e3,f1];refine af (yj h L c cv hv wv (9,r,5+k) i m hl hi) fun v1 h1 p1=>?_
  obtain⟨rfl,st⟩:=p1;simp only[go_sem,seval];exact st
 ·rw[if_neg e3]at hi;have f1:fw .i64 (1+k)=1+k:=aS (by omega) (by omega);have f2:fw .i64 (-1-r)=-1-r:=aS (by omega) (by omega);simp only[go_sem,seval,e1,k6,rz,e3,f1,f2];refine af (yj h L c cv hv wv (8,-1-r,1+k) i m hl hi) fun v1 h1 p1=>?_
  obtain⟨rfl,st⟩:=p1;simp only[go_sem,seval];exact st
theorem mT(kd fi pe:Int)(n:Nat):(dD kd fi pe n).length=n:=by unfold dD;rw[List.length_map,List.length_range]
theorem rJ{kd fi pe:Int}{n i:Nat}(h:i<n):(dD kd fi pe n)[i]?=some (Ek kd fi pe i):=by
 unfold dD;rw[List.getElem?_map,List.getElem?_range h];rfl
theorem Ft{kd fi pe:Int}{n:Nat}:∀p∈dD kd fi pe n,p.1=kd:=fun p hp=>by
 unfold dD at hp;obtain⟨i,_,rfl⟩:=List.mem_map.1 hp;rfl
theorem ku.left{l m:PL}{q:Int×Int×Int}{i:Nat}(h:ku l q i):ku (l++m) q i:=by
 have hi:=(List.getElem?_eq_some_iff.1 h.1).1;exact⟨by rw[List.getElem?_append_left hi];exact h.1,fun j hj=>by rw[List.getElem?_append_left (by omega)];exact h.2 j hj⟩
theorem ku.right{l m:PL}{q:Int×Int×Int}{i:Nat}(hl:∀p∈l,p≠q)(h:ku m q i):ku (l++m) q (l.length+i):=by
 refine⟨by rw[List.getElem?_append_right (by omega),Nat.add_sub_cancel_left];exact h.1,fun j hj hh=>?_⟩
 by_cases hjl:j<l.length
 ·rw[List.getElem?_append_left hjl]at hh;exact hl _ (List.mem_of_getElem? hh) rfl
 ·rw[List.getElem?_append_right (by omega)]at hh;exact h.2 _ (by omega) hh
theorem S6{i:Nat}{x:Int}(h1:1<=x)(h6:x<=6)(hi:i<=10000){j:Nat}(hj:(j:Int)<5+x):Ek 9 ((i:Int)+1) (5+x) j=(9,(i:Int)+1,(j:Int)):=by
 have e:Int.tdiv (j:Int) (5+x)=0:=by rw[Int.tdiv_eq_ediv_of_nonneg (by omega)];exact Int.ediv_eq_zero_of_lt (by omega) (by omega)
 have e2:Int.tmod (j:Int) (5+x)=j:=by rw[Int.tmod_eq_emod_of_nonneg (by omega)];exact Int.emod_eq_of_lt (by omega) (by omega)
 unfold Ek;rw[e,e2,show fw .i64 0=0 from rfl,Int.add_zero,aS (by omega) (by omega)]
theorem QE:∀(hs:List Int) (a:Int) (i j:Nat) (x y:Int) (w:Nat),(∀x∈hs,1<=x/\x<=6)->i+hs.length<=10000->hs[j]?=some x->(Cx a hs)[j]?=some y->(w:Int)<5+x->ku (vZ i hs) (9,(i:Int)+(j:Int)+1,(w:Int)) ((y-a).toNat+w)
 | [],_,_,j,_,_,_,_,_,h,_,_=>by simp at h
 |z::l,a,i,j,x,y,w,hx,hl,hj,hy,hw=>by
  have h0:=hx z (List.mem_cons_self ..);rw[List.length_cons]at hl;unfold vZ;cases j with
  |zero=>
   obtain rfl:z=x:=Option.some.inj hj;obtain rfl:a=y:=Option.some.inj hy;have e0:(a-a).toNat+w=w:=by omega
   rw[e0];refine ku.left ⟨?_,fun k hk hh=>?_⟩
   ·rw[rJ (by omega),S6 h0.1 h0.2 (by omega) hw];simp
   ·rw[rJ (by omega),S6 h0.1 h0.2 (by omega) (by omega)]at hh;simp at hh;omega
  |succ j=>
   obtain⟨y',h1,h2,_,_⟩:=vh l (a+(5+z)) j x (fun x vg=>(hx x (List.mem_cons_of_mem _ vg)).1) hj;have e1:y'=y:=Option.some.inj (h1.symm.trans hy);have ih:=QE l (a+(5+z)) (i+1) j x y w (fun x vg=>hx x (List.mem_cons_of_mem _ vg)) (by omega) hj hy hw;have e2:((i+1:Nat):Int)+(j:Int)+1=(i:Int)+((j+1:Nat):Int)+1:=by omega
   rw[e2]at ih;have:=ku.right (l:=dD 9 ((i:Int)+1) (5+z) (5+z).toNat) (fun p hp e=>?_) ih
   ·rw[mT]at this;have e3:(5+z).toNat+((y-(a+(5+z))).toNat+w)=(y-a).toNat+w:=by omega
    rw[e3]at this;exact this
   ·unfold dD at hp;obtain⟨k,hk,rfl⟩:=List.mem_map.1 hp;have hk:=List.mem_range.1 hk;rw[S6 h0.1 h0.2 (by omega) (by omega)]at e;simp at e;omega
theorem En{n:Nat}{v w:Nat}(hw:w<7)(hn:v*7+w<n)(hn':n<=10000):ku (dD 8 0 7 n) (8,(v:Int),(w:Int)) (v*7+w):=by
 have key:∀j,j<n->Ek 8 0 7 j=(8,((j/7:Nat):Int),((j %7:Nat):Int)):=fun j hj=>by
  unfold Ek;have e1:Int.tdiv (j:Int) 7=((j/7:Nat):Int):=by rw[Int.tdiv_eq_ediv_of_nonneg (by omega)];omega
  have e2:Int.tmod (j:Int) 7=((j %7:Nat):Int):=by rw[Int.tmod_eq_emod_of_nonneg (by omega)];omega
  have f1:fw .i64 (((j/7:Nat):Int))=((j/7:Nat):Int):=aS (by omega) (by omega);rw[e1,e2,f1,Int.zero_add,f1]
 refine⟨?_,fun j hj hh=>?_⟩
 ·rw[rJ hn,key _ hn,show(v*7+w)/7=v by omega,show(v*7+w)%7=w by omega]
 ·rw[rJ (by omega),key _ (by omega)]at hh;simp at hh;omega
theorem CO:∀(hs:List Int) (i:Nat),(∀x∈hs,1<=x/\x<=6)->((vZ i hs).length:Int)=eB hs
 | [],_,_=>rfl
 |x::l,i,h=>by
  have ih:=CO l (i+1) fun y hy=>h y (List.mem_cons_of_mem _ hy)
  have h0:=h x (List.mem_cons_self ..);unfold vZ eB;rw[List.length_append,mT];omega
def yk(c:aj):PL:=dD 1 0 1 c.aq.toNat++dD 2 0 (bD c) (bD c).toNat++dD 3 0 1 1++dD 4 0 3 (3*c.bY).toNat++dD 5 0 1 c.bY.toNat++dD 6 0 1 6++dD 7 1 1 (aH c).length
theorem wi(c:aj):dF c (aH c)=yk c++(dD 8 0 7 (ir c*7).toNat++vZ 0 (aH c)):=by
 unfold dF yk;rw[List.append_assoc _ (dD 8 0 7 _)]
theorem wj{c:aj}(b:LB c):((yk c).length:Int)=(aA c).he:=by
 obtain⟨n1,n2,n3,n4,n5,n6,n7,n8,n9,rH,rI⟩:=b.dq;unfold yk;simp only[List.length_append,mT];simp only[aA,MY]at n3 n4⊢;omega
theorem Fu{c:aj}:∀p∈yk c,p.1<8:=fun p hp=>by
 unfold yk at hp;simp only[List.mem_append]at hp;rcases hp with(((((h|h)|h)|h)|h)|h)|h<;>·have:=Ft p h;omega
theorem LB.len{c:aj}(b:LB c):((dF c (aH c)).length:Int)=(aA c).wo:=by
 obtain⟨n1,n2,n3,n4,n5,n6,n7,n8,n9,rH,rI⟩:=b.dq;have hv:=b.val;have h1:=wj b;have h2:=CO (aH c) 0 dh;rw[wi];simp only[List.length_append,mT];omega
theorem LB.Ju{c:aj}(b:LB c){i:Nat}{x y:Int}(hx:(aH c)[i]?=some x)(hy:(nO c)[i]?=some y){w:Nat}(hw:(w:Int)<5+x):ku (dF c (aH c)) (9,(i:Int)+1,(w:Int)) (y+(w:Int)).toNat:=by
 obtain⟨n1,n2,n3,n4,n5,n6,n7,n8,n9,rH,rI⟩:=b.dq;obtain⟨y',h1,h2,h3,x1,x6,i6⟩:=b.tw hx;obtain rfl:y'=y:=Option.some.inj (h1.symm.trans hy);have hv:=b.val;have hp:=wj b;have ht:=QE (aH c) (aA c).tw 0 i x y' w dh (by have:=b.Ce;omega) hx hy hw;rw[show((0:Nat):Int)+(i:Int)+1=(i:Int)+1 by omega]at ht;have h8:=ku.right (l:=dD 8 0 7 (ir c*7).toNat) (fun p hp e=>by have:=Ft p hp;rw[e]at this;simp at this) ht;have h9:=ku.right (l:=yk c) (fun p hp e=>by have:=Fu p hp;rw[e]at this;simp at this) h8;rw[mT]at h9;rw[wi];have e:(yk c).length+((ir c*7).toNat+((y'-(aA c).tw).toNat+w))=(y'+(w:Int)).toNat:=by omega
 rw[e]at h9;exact h9
theorem LB.En{c:aj}(b:LB c){v w:Nat}(hv:(v:Int)<ir c)(hw:w<7):ku (dF c (aH c)) (8,(v:Int),(w:Int)) ((aA c).he+(v:Int)*7+(w:Int)).toNat:=by
 obtain⟨n1,n2,n3,n4,n5,n6,n7,n8,n9,rH,rI⟩:=b.dq;have gr:=b.val;have hp:=wj b;have h8:=(CQ.En (n:=(ir c*7).toNat) (v:=v) hw (by omega) (by omega)).left (m:=vZ 0 (aH c));have h9:=ku.right (l:=yk c) (fun p hp e=>by have:=Fu p hp;rw[e]at this;simp at this) h8;rw[wi];have e:(yk c).length+(v*7+w)=((aA c).he+(v:Int)*7+(w:Int)).toNat:=by omega
 rw[e]at h9;exact h9
theorem Nd.at{c:aj}(b:LB c){r k:Int}(n:Nd c r k):ku (dF c (aH c)) (if 0<r then(9,r,5+k)else(8,-1-r,1+k)) (kD c r k).toNat/\0<=kD c r k/\kD c r k<(aA c).wo/\-1000<=r/\r<=1000/\r≠0/\0<=k/\k<6/\(aA c).he<=kD c r k:=by
 obtain⟨n1,n2,n3,n4,n5,n6,n7,n8,n9,rH,rI⟩:=b.dq;have gr:=b.val;rcases n with⟨r0,r1,k0,k6⟩|⟨i,x,rfl,hx,k0,k6⟩
 ·obtain⟨v,hv⟩:∃v:Nat,-1-r=(v:Int):=⟨(-1-r).toNat,by omega⟩;obtain⟨w,hw⟩:∃w:Nat,1+k=(w:Int):=⟨(1+k).toNat,by omega⟩;have h:=b.En (v:=v) (w:=w) (by omega) (by omega);rw[if_neg (by omega)];have e:kD c r k=(aA c).he+(v:Int)*7+(w:Int):=by unfold kD;rw[if_pos r0];omega
  rw[e,hv,hw];exact⟨h,by omega,by omega,by omega,by omega,by omega,k0,k6,by omega⟩
 ·obtain⟨y,hy,y0,y1,x1,x6,i6⟩:=b.tw hx;obtain⟨w,hw⟩:∃w:Nat,5+k=(w:Int):=⟨(5+k).toNat,by omega⟩;have h:=b.Ju hx hy (w:=w) (by omega);rw[if_pos (by omega)];have e:kD c ((i:Int)+1) k=y+(w:Int):=by
   unfold kD;rw[if_neg (by omega),show((i:Int)+1-1).toNat=i by omega,hy]
   show y+5+k=_
   omega
  rw[e,hw];exact⟨h,by omega,by omega,by omega,by omega,by omega,k0,by omega,by omega⟩
def Xw(call:ab):Prop:=∀h L c cv hv wv (r k:Int),iX h L c cv hv wv->LB c->Nd c r k->Giv call 84 [.ptr L 0,.int .i64 r,.int .i64 k] h (.aE [.int .i64 (kD c r k),.int .i64 0])
theorem ai4(P:Program)[PF P]{call:ab}(yj:G1 call){h:H}{L:Nat}{c:aj}{cv hv wv:AV}(m:iX h L c cv hv wv)(b:LB c){r k:Int}(n:Nd c r k):WF P call c84 [.ptr L 0,.int .i64 r,.int .i64 k] h fun v h'=>v=.aE [.int .i64 (kD c r k),.int .i64 0]/\ae h h':=by
 obtain⟨h1,h2,h3,h4,h5,h6,h7,h8,_⟩:=n.at b;obtain⟨n1,n2,n3,n4,n5,n6,n7,n8,n9,rH,rI⟩:=b.dq;have hl:=b.len;have:=w84 P yj m (by omega) h4 h5 h6 h7 h8 h1;rw[show(((kD c r k).toNat:Nat):Int)=kD c r k by omega]at this;exact this
def NY(call:ab):Prop:=∀h L c cv hv wv (i:Nat) (x y:Int) (w:Nat),iX h L c cv hv wv->LB c->(aH c)[i]?=some x->(nO c)[i]?=some y->w<5->Giv call 138 [.ptr L 0,.int .i64 ((i:Int)+1),.int .i64 (w:Int)] h (.aE [.int .i64 (y+(w:Int)),.int .i64 0])
theorem ZF(P:Program)[PF P]{call:ab}(yj:G1 call){h:H}{L:Nat}{c:aj}{cv hv wv:AV}(m:iX h L c cv hv wv)(b:LB c){i:Nat}{x y:Int}(hx:(aH c)[i]?=some x)(hy:(nO c)[i]?=some y){w:Nat}(hw:w<5):WF P call S3 [.ptr L 0,.int .i64 ((i:Int)+1),.int .i64 (w:Int)] h fun v h'=>v=.aE [.int .i64 (y+(w:Int)),.int .i64 0]/\ae h h':=by
 obtain⟨y',h1,h2,h3,x1,x6,i6⟩:=b.tw hx;obtain rfl:y'=y:=Option.some.inj (h1.symm.trans hy);obtain⟨n1,n2,n3,n4,n5,n6,n7,n8,n9,rH,rI⟩:=b.dq;have hv:=b.val;have hl:=b.len;have:=ai2 P yj m (by omega) (by omega) (by omega) (b.Ju hx hy (w:=w) (by omega));rw[show(((y'+(w:Int)).toNat:Nat):Int)=y'+(w:Int) by omega]at this;exact this
end
end Go.Proofs.YtgkjlklfjbljeaaGreat.CQ
