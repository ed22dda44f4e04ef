/-
  What functions of the program compute, one by one. Conditions: those of each theorem.
-/
import Derived.Test.YtghmnaojmpjglaaGreatDoorPwD
set_option linter.all false
namespace Go.Proofs.YtghmnaojmpjglaaGreatDoor.PR
open Go.Proofs.YtghmnaojmpjglaaGreatDoor.Eo
noncomputable section
variable(P:Program)[PT P]{call:CallE}
def Does(call:CallE)(f:FuncId)(args:List AV)(h:H)(Q:AV->H->Prop):Prop:=∃v h',call f args h=some (v,h')∧Q v h'
inductive EK where
 |full (G N B:Nat)
 |each (G N F:Nat)
 |gate (G S nb:Nat) (Sx:Nat->Prop)
def EK.G:EK->Nat
 | .full G _ _=>G
 | .each G _ _=>G
 | .gate G _ _ _=>G
def EK.tag:EK->Nat
 | .full _ _ _=>1
 | .each _ _ _=>2
 | .gate _ _ _ _=>3
def EK.ht:EK->TypeId
 | .full _ _ _=>333
 | .each _ _ _=>340
 | .gate _ _ _ _=>347
def EK.rt:EK->TypeId
 | .full _ _ _=>327
 | .each _ _ _=>334
 | .gate _ _ _ _=>341
def EK.ot:EK->TypeId
 | .full _ _ _=>576
 | .each _ _ _=>588
 | .gate _ _ _ _=>605
def EK.st:EK->FuncId
 | .full _ _ _=>555
 | .each _ _ _=>559
 | .gate _ _ _ _=>571
def engF:EK->Nat->Prop
 | .full G N B=>fun b=>b=G∨b=N∨b=B
 | .each G N F=>fun b=>b=G∨b=N∨b=F
 | .gate G S _ Sx=>fun b=>b=G∨b=S∨Sx b
def engR(h:H):EK->Nat->Prop
 | .full G N B=>fun b=>b=G∨b=N∨b=B
 | .each G N F=>fun b=>b=G∨b=N∨b=F
 | .gate G S _ Sx=>fun b=>b=G∨b=S∨Sx b∧∃c,h.t.get b=some (rowL [c,.bool true] 609)
theorem engR.f{h:H}{ek:EK}{b:Nat}(hb:engR h ek b):engF ek b:=by
 cases ek with
 |full G N B=>exact hb
 |each G N F=>exact hb
 |gate G S nb Sx=>exact hb.imp id fun hb=>hb.imp id fun hb=>hb.1
def engM:EK->Nat->Prop
 | .full G N B=>fun b=>b=N∨b=B
 | .each G N F=>fun b=>b=N
 | .gate G S _ Sx=>fun b=>b=S
def EngA(h:H)(M n bs:Nat)(nu:List Int):EK->Prop
 | .full G N B=>FullE h M n bs G N B nu (List.replicate n false)
 | .each G N F=>EachE h M n bs G N F (eZ nu)
 | .gate G S nb Sx=>nu.length=n∧∃es,GateE Sx h M bs nb G S es nu
def penE(h:H)(M n bs:Nat)(nu:List Int)(t:Int)(s X Y:Nat):EK->Nat->Prop
 | .full G N B,0=>FullE h M n bs G N B nu ((List.replicate n false).set s true)∧h.t.get X=some (rowL [.ptr G 0,.int .i64 t,.int .i64 (s:Int),.fn (.func 431) [.ptr X 0] []] 578)
 | .full G N B,_+1=>FullE h M n bs G N B (nu.set s 1) (List.replicate n false)∧h.t.get X=some (rowL [.ptr G 0,.int .i64 t,.int .i64 (s:Int),.nilf] 578)
 | .each G N F,0=>EachE h M n bs G N F ((eZ nu).set s (0,true))∧h.t.get X=some (xB G t s 0)
 | .each G N F,1=>EachE h M n bs G N F ((eZ nu).set s (0,true))∧h.t.get X=some (xB G t s 1)
 | .each G N F,_+2=>EachE h M n bs G N F (eZ (nu.set s 1))∧h.t.get X=some (xB G t s 2)
 | .gate G S nb Sx,0=>∃es,GateP Sx h M bs nb G S es nu t s X Y (-1) false
 | .gate G S nb Sx,1=>∃es,GateP Sx h M bs nb G S es nu t s X Y ((bs:Int)+1) false
 | .gate G S nb Sx,_+2=>∃es c,GateP Sx h M bs nb G S es nu t s X Y c true
structure PenA(h:H)(M n bs:Nat)(nu:List Int)(t:Int)(s X Y:Nat)(ek:EK)(d:Nat):Prop where
 e:penE h M n bs nu t s X Y ek d
 lX:X<h.next
 ns:nu[s]?=some 0
 hs:s<n
 ln:nu.length=n
 yx:ek.tag=3∨Y=X
theorem EngA.keep{h h':H}{M n bs:Nat}{nu:List Int}{ek:EK}(m:EngA h M n bs nu ek)(hn:h.next<=h'.next)(k:∀b,b<h.next->engR h ek b->h'.t.get b=h.t.get b):EngA h' M n bs nu ek:=by
 cases ek with
 |full G N B=>
  have m':FullE h M n bs G N B nu (List.replicate n false):=m
  exact m'.keep hn fun b hb=>k b (by rcases hb with rfl|rfl|rfl;exact m'.lG;exact m'.lN;exact m'.lB) hb
 |each G N F=>
  have m':EachE h M n bs G N F (eZ nu):=m
  exact m'.keep hn fun b hb=>k b (by rcases hb with rfl|rfl|rfl;exact m'.lG;exact m'.lN;exact m'.lF) hb
 |gate G S nb Sx=>
  obtain⟨ln,es,m'⟩:=m
  exact⟨ln,es,m'.keep hn fun b lb hb=>k b lb hb⟩
theorem EngA.step{h h':H}{M n bs:Nat}{nu:List Int}{ek:EK}(m:EngA h M n bs nu ek)(s:StepN h h'):EngA h' M n bs nu ek:=m.keep s.next fun b lb _=>s.old b lb
theorem FullE.lt{h:H}{M n bs G N B:Nat}{nu:List Int}{bg:List Bool}(m:FullE h M n bs G N B nu bg){b:Nat}(hb:b=G∨b=N∨b=B):b<h.next:=by
 rcases hb with rfl|rfl|rfl
 ·exact m.lG
 ·exact m.lN
 ·exact m.lB
theorem EachE.lt{h:H}{M n bs G N F:Nat}{sl:List (Int×Bool)}(m:EachE h M n bs G N F sl){b:Nat}(hb:b=G∨b=N∨b=F):b<h.next:=by
 rcases hb with rfl|rfl|rfl
 ·exact m.lG
 ·exact m.lN
 ·exact m.lF
theorem PenA.keep{h h':H}{M n bs:Nat}{nu:List Int}{t:Int}{s X Y:Nat}{ek:EK}{d:Nat}(m:PenA h M n bs nu t s X Y ek d)(hn:h.next<=h'.next)(k:∀b,b<h.next->engR h ek b∨b=X∨b=Y->h'.t.get b=h.t.get b):PenA h' M n bs nu t s X Y ek d:=by
 obtain⟨e,lX,ns,hs,ln,yx⟩:=m
 refine⟨?_,Nat.lt_of_lt_of_le lX hn,ns,hs,ln,yx⟩
 have kX:=k X lX (.inr (.inl rfl))
 have kg:∀{G S:Nat} {Sx:Nat->Prop} {nb:Nat},ek=.gate G S nb Sx->∀b,b<h.next->(b=G∨b=S∨b=X∨b=Y∨Sx b∧∃c,h.t.get b=some (rowL [c,.bool true] 609))->h'.t.get b=h.t.get b:=fun{G S Sx nb} he b lb hb=>k b lb (by
  subst he
  rcases hb with q|q|q|q|q
  ·exact .inl (.inl q)
  ·exact .inl (.inr (.inl q))
  ·exact .inr (.inl q)
  ·exact .inr (.inr q)
  ·exact .inl (.inr (.inr q)))
 cases ek with
 |full G N B=>
  cases d with
  |zero=>exact⟨e.1.keep hn fun b hb=>k b (e.1.lt hb) (.inl hb),kX.trans e.2⟩
  |succ d=>exact⟨e.1.keep hn fun b hb=>k b (e.1.lt hb) (.inl hb),kX.trans e.2⟩
 |each G N F=>
  match d,e with
  |0,e=>exact⟨e.1.keep hn fun b hb=>k b (e.1.lt hb) (.inl hb),kX.trans e.2⟩
  |1,e=>exact⟨e.1.keep hn fun b hb=>k b (e.1.lt hb) (.inl hb),kX.trans e.2⟩
  |d+2,e=>exact⟨e.1.keep hn fun b hb=>k b (e.1.lt hb) (.inl hb),kX.trans e.2⟩
 |gate G S nb Sx=>
  match d,e with
  |0,⟨es,e⟩=>exact⟨es,e.keep hn (kg rfl)⟩
  |1,⟨es,e⟩=>exact⟨es,e.keep hn (kg rfl)⟩
  |d+2,⟨es,c,e⟩=>exact⟨es,c,e.keep hn (kg rfl)⟩
theorem PenA.step{h h':H}{M n bs:Nat}{nu:List Int}{t:Int}{s X Y:Nat}{ek:EK}{d:Nat}(m:PenA h M n bs nu t s X Y ek d)(st:StepN h h'):PenA h' M n bs nu t s X Y ek d:=m.keep st.next fun b lb _=>st.old b lb
def EK.add(ek:EK)(Y:Nat):EK:=match ek with
 | .gate G S nb Sx=>.gate G S nb fun b=>Sx b∨b=Y
 |k=>k
theorem PenA.done{h:H}{M n bs:Nat}{nu:List Int}{t:Int}{s X Y:Nat}{ek:EK}{d:Nat}(m:PenA h M n bs nu t s X Y ek (d+2)):EngA h M n bs (nu.set s 1) (ek.add Y):=by
 cases ek with
 |full G N B=>exact m.e.1
 |each G N F=>exact m.e.1
 |gate G S nb Sx=>
  obtain⟨es,c,e⟩:=m.e
  obtain⟨es',e'⟩:=e.done
  exact⟨by rw[List.length_set];exact m.ln,es',e'⟩
theorem own_row{k:Nat}{e:TypeId}{h:H}{v:AV}{len:Nat}{cs:List AV}(o:Own k e h v len cs){b:Nat}(hb:own v=some b):∃c n,h.t.get b=some (.row c n e):=by
 cases o with
 |nil=>cases hb
 |sl a len cs cap hc0 hp hcl ha hg=>
  obtain rfl:a=b:=Option.some.inj hb
  exact⟨_,_,hg⟩
theorem MemL.off{h:H}{M W:Nat}{lv:AV}{ws:List Int}{l:List AccT}(m:MemL h M W lv ws l){b:Nat}(hb:∀c n e,h.t.get b=some (.row c n e)->e≠197∧e≠194∧e≠296):¬memS M W lv b:=fun hS=>by
 rcases hS with rfl|rfl|e
 ·exact(hb _ _ _ m.g).1 rfl
 ·exact(hb _ _ _ m.w).2.1 rfl
 ·obtain⟨c,n,g⟩:=own_row m.l e
  exact(hb _ _ _ g).2.2 rfl
theorem offR{h:H}{b:Nat}{c0:T AV}{n0:Nat}{e0:TypeId}(g:h.t.get b=some (.row c0 n0 e0))(h1:e0≠197)(h2:e0≠194)(h3:e0≠296):∀c n e,h.t.get b=some (.row c n e)->e≠197∧e≠194∧e≠296:=fun c n e g'=>by
 rw[g]at g'
 simp at g'
 obtain⟨_,_,rfl⟩:=g'
 exact⟨h1,h2,h3⟩
theorem offM{h:H}{b:Nat}{es:List (AV×AV×Nat)}{k:Nat}(g:h.t.get b=some (.map es k)):∀c n e,h.t.get b=some (.row c n e)->e≠197∧e≠194∧e≠296:=fun c n e g'=>by
 rw[g]at g'
 cases g'
theorem FullE.off{h:H}{M n bs G N B:Nat}{nu:List Int}{bg:List Bool}(m:FullE h M n bs G N B nu bg){b:Nat}(hb:b=G∨b=N∨b=B):∀c n e,h.t.get b=some (.row c n e)->e≠197∧e≠194∧e≠296:=by
 rcases hb with rfl|rfl|rfl
 ·exact offR m.gG (by decide) (by decide) (by decide)
 ·exact offR m.gN (by decide) (by decide) (by decide)
 ·exact offR m.gB (by decide) (by decide) (by decide)
theorem EachE.off{h:H}{M n bs G N F:Nat}{sl:List (Int×Bool)}(m:EachE h M n bs G N F sl){b:Nat}(hb:b=G∨b=N∨b=F):∀c n e,h.t.get b=some (.row c n e)->e≠197∧e≠194∧e≠296:=by
 rcases hb with rfl|rfl|rfl
 ·exact offR m.gG (by decide) (by decide) (by decide)
 ·exact offR m.gN (by decide) (by decide) (by decide)
 ·exact offR m.gF (by decide) (by decide) (by decide)
theorem GateP.off{Sx:Nat->Prop}{h:H}{M bs nb G S:Nat}{es:List (AV×AV×Nat)}{nu:List Int}{t:Int}{s X Y:Nat}{c:Int}{d:Bool}(m:GateP Sx h M bs nb G S es nu t s X Y c d){b:Nat}(hb:b=G∨b=S∨b=X∨b=Y∨Sx b∧∃c,h.t.get b=some (rowL [c,.bool true] 609)):∀c n e,h.t.get b=some (.row c n e)->e≠197∧e≠194∧e≠296:=by
 rcases hb with rfl|rfl|rfl|rfl|⟨_,c,g⟩
 ·exact offR m.gG (by decide) (by decide) (by decide)
 ·obtain⟨_,_,g⟩:=m.gS
  exact offM g
 ·exact offR m.gX (by decide) (by decide) (by decide)
 ·exact offR m.gY (by decide) (by decide) (by decide)
 ·exact offR g (by decide) (by decide) (by decide)
theorem PenA.ty{h:H}{M n bs:Nat}{nu:List Int}{t:Int}{s X Y:Nat}{ek:EK}{d:Nat}(m:PenA h M n bs nu t s X Y ek d){b:Nat}(hb:engM ek b∨b=X∨b=Y):
 (∀c k e,h.t.get b=some (.row c k e)->e=51∨e=4∨e=593∨e=578∨e=595∨e=612∨e=609)∧∀es k,h.t.get b=some (.map es k)->engM ek b∧engF ek b:=by
 obtain⟨e,lX,ns,hs,ln,yx⟩:=m
 have rw1:∀{b:Nat} {c0:T AV} {n0:Nat} {e0:TypeId},h.t.get b=some (.row c0 n0 e0)->(e0=51∨e0=4∨e0=593∨e0=578∨e0=595∨e0=612∨e0=609)->(∀c k e,h.t.get b=some (.row c k e)->e=51∨e=4∨e=593∨e=578∨e=595∨e=612∨e=609)∧∀es k,h.t.get b=some (.map es k)->engM ek b∧engF ek b:=fun{b c0 n0 e0} g0 he=>⟨fun c k e g=>by
  rw[g0]at g
  simp at g
  rw[←g.2.2]
  exact he,fun es k g=>by rw[g0]at g;cases g⟩
 cases ek with
 |full G N B=>
  have yx':Y=X:=yx.resolve_left (by simp[EK.tag])
  cases d with
  |zero=>
   rcases hb with(rfl|rfl)|rfl|rfl
   ·exact rw1 e.1.gN (.inl rfl)
   ·exact rw1 e.1.gB (.inr (.inl rfl))
   ·exact rw1 e.2 (.inr (.inr (.inr (.inl rfl))))
   ·rw[yx'];exact rw1 e.2 (.inr (.inr (.inr (.inl rfl))))
  |succ d=>
   rcases hb with(rfl|rfl)|rfl|rfl
   ·exact rw1 e.1.gN (.inl rfl)
   ·exact rw1 e.1.gB (.inr (.inl rfl))
   ·exact rw1 e.2 (.inr (.inr (.inr (.inl rfl))))
   ·rw[yx'];exact rw1 e.2 (.inr (.inr (.inr (.inl rfl))))
 |each G N F=>
  have yx':Y=X:=yx.resolve_left (by simp[EK.tag])
  have g2:h.t.get N=none∨∃sl,h.t.get N=some (.row (putList 0 (eachC sl) T.e) (n*2) 593):=by
   match d,e with
   |0,e=>exact .inr ⟨_,e.1.gN⟩
   |1,e=>exact .inr ⟨_,e.1.gN⟩
   |d+2,e=>exact .inr ⟨_,e.1.gN⟩
  have g3:∃q,h.t.get X=some (xB G t s q):=by
   match d,e with
   |0,e=>exact⟨_,e.2⟩
   |1,e=>exact⟨_,e.2⟩
   |d+2,e=>exact⟨_,e.2⟩
  obtain⟨q,g3⟩:=g3
  rcases hb with q1|rfl|rfl
  ·obtain rfl:b=N:=q1
   rcases g2 with g2|⟨sl,g2⟩
   ·exact⟨fun c k e g=>(by rw[g2]at g;cases g),fun es k g=>(by rw[g2]at g;cases g)⟩
   ·exact rw1 g2 (.inr (.inr (.inl rfl)))
  ·exact rw1 g3 (.inr (.inr (.inr (.inr (.inl rfl)))))
  ·rw[yx'];exact rw1 g3 (.inr (.inr (.inr (.inr (.inl rfl)))))
 |gate G S nb Sx=>
  have g:∃es c dd,GateP Sx h M bs nb G S es nu t s X Y c dd:=by
   match d,e with
   |0,⟨es,e⟩=>exact⟨_,_,_,e⟩
   |1,⟨es,e⟩=>exact⟨_,_,_,e⟩
   |d+2,⟨es,c,e⟩=>exact⟨_,_,_,e⟩
  obtain⟨es,c,dd,g⟩:=g
  rcases hb with q1|rfl|rfl
  ·refine⟨fun c k e g'=>?_,fun es k _=>⟨q1,.inr (.inl q1)⟩⟩
   obtain⟨_,_,gS⟩:=g.gS
   rw[show b=S from q1,gS]at g'
   cases g'
  ·exact rw1 g.gX (.inr (.inr (.inr (.inr (.inr (.inl rfl))))))
  ·exact rw1 g.gY (.inr (.inr (.inr (.inr (.inr (.inr rfl))))))
theorem PenA.off{h:H}{M n bs:Nat}{nu:List Int}{t:Int}{s X Y:Nat}{ek:EK}{d:Nat}(m:PenA h M n bs nu t s X Y ek d){b:Nat}(hb:engR h ek b∨b=X∨b=Y):
 (∃c k e,h.t.get b=some (.row c k e)∧e≠100∧e≠231)∨(∃es k,h.t.get b=some (.map es k)):=by
 have m0:=m
 obtain⟨e,lX,ns,hs,ln,yx⟩:=m
 cases ek with
 |full G N B=>
  have yx':Y=X:=yx.resolve_left (by simp[EK.tag])
  have g:∃nu' bg f,FullE h M n bs G N B nu' bg∧h.t.get X=some (rowL [.ptr G 0,.int .i64 t,.int .i64 (s:Int),f] 578):=by
   cases d with
   |zero=>exact⟨_,_,_,e⟩
   |succ d=>exact⟨_,_,_,e⟩
  obtain⟨nu',bg,f,e1,gX⟩:=g
  rw[yx']at hb
  rcases hb with(rfl|rfl|rfl)|rfl|rfl
  ·exact .inl ⟨_,_,_,e1.gG,by decide,by decide⟩
  ·exact .inl ⟨_,_,_,e1.gN,by decide,by decide⟩
  ·exact .inl ⟨_,_,_,e1.gB,by decide,by decide⟩
  ·exact .inl ⟨_,_,_,gX,by decide,by decide⟩
  ·exact .inl ⟨_,_,_,gX,by decide,by decide⟩
 |each G N F=>
  have yx':Y=X:=yx.resolve_left (by simp[EK.tag])
  have g:∃sl q,EachE h M n bs G N F sl∧h.t.get X=some (xB G t s q):=by
   match d,e with
   |0,e=>exact⟨_,_,e⟩
   |1,e=>exact⟨_,_,e⟩
   |d+2,e=>exact⟨_,_,e⟩
  obtain⟨sl,q,e1,gX⟩:=g
  rw[yx']at hb
  rcases hb with(rfl|rfl|rfl)|rfl|rfl
  ·exact .inl ⟨_,_,_,e1.gG,by decide,by decide⟩
  ·exact .inl ⟨_,_,_,e1.gN,by decide,by decide⟩
  ·exact .inl ⟨_,_,_,e1.gF,by decide,by decide⟩
  ·exact .inl ⟨_,_,_,gX,by decide,by decide⟩
  ·exact .inl ⟨_,_,_,gX,by decide,by decide⟩
 |gate G S nb Sx=>
  have g:∃es c dd,GateP Sx h M bs nb G S es nu t s X Y c dd:=by
   match d,e with
   |0,⟨es,e⟩=>exact⟨_,_,_,e⟩
   |1,⟨es,e⟩=>exact⟨_,_,_,e⟩
   |d+2,⟨es,c,e⟩=>exact⟨_,_,_,e⟩
  obtain⟨es,c,dd,g⟩:=g
  rcases hb with(rfl|rfl|⟨_,c,q⟩)|rfl|rfl
  ·exact .inl ⟨_,_,_,g.gG,by decide,by decide⟩
  ·obtain⟨_,_,q⟩:=g.gS
   exact .inr ⟨_,_,q⟩
  ·exact .inl ⟨_,_,_,q,by decide,by decide⟩
  ·exact .inl ⟨_,_,_,g.gX,by decide,by decide⟩
  ·exact .inl ⟨_,_,_,g.gY,by decide,by decide⟩
def stK(tag bs s:Nat)(t:Int)(d:Nat)(ws:List Int)(l:List AccT):Int×Bool×List Int×List AccT:=match tag,d with
 |1,0=>(13,true,ws.set (bs+s) 1,l++[⟨t,((bs+s:Nat):Int),2,(ws[bs+s]?).getD 0,1,false⟩])
 |2,0=>(14,false,ws.set (bs+(2*s+1)) 0,l++[⟨t,((bs+(2*s+1):Nat):Int),2,(ws[bs+(2*s+1)]?).getD 0,0,false⟩])
 |2,1=>(13,true,ws.set (bs+2*s) 1,l++[⟨t,((bs+2*s:Nat):Int),2,(ws[bs+2*s]?).getD 0,1,false⟩])
 |3,0=>(15,false,ws,l++[⟨t,(bs:Int),1,0,0,false⟩])
 |3,1=>(16,true,ws.set (bs+1) ((ws[bs+1]?).getD 0+1),l++[⟨t,((bs+1:Nat):Int),3,(ws[bs+1]?).getD 0,(ws[bs+1]?).getD 0+1,false⟩])
 |_,_=>(0,false,ws,l)
structure WInv(tag n bs:Nat)(ws:List Int)(k:Int):Prop where
 sz:bs+n*2<=5000
 l1:tag=1->bs+n<=ws.length
 l2:tag=2->bs+n*2<=ws.length
 l3:tag=3->ws[bs]?=some 0∧∃x,ws[bs+1]?=some x∧0<=x∧x<=k
def F555a(call:CallE):Prop:=∀h M W n bs G N B X nu lv ws l (t:Int) (s:Nat) (y:Int),FullE h M n bs G N B nu ((List.replicate n false).set s true)->MemL h M W lv ws l->l.length<=1000000->(∀b,fullS G N B b∨b=X->¬memS M W lv b)->bs+n<=5000->h.t.get X=some (rowL [.ptr G 0,.int .i64 t,.int .i64 (s:Int),.fn (.func 431) [.ptr X 0] []] 578)->X<h.next->0<=t->t<64->nu[s]?=some 0->ws[bs+s]?=some y->Does call 555 [.ptr X 0] h fun v h'=>v=.tup [.int .u8 13,.bool true]∧PostSA M W n bs G N B X nu lv ws l t s y h h'
def F555b(call:CallE):Prop:=∀h X a b c,h.t.get X=some (rowL [a,b,c,.nilf] 578)->call 555 [.ptr X 0] h=some (.tup [.int .u8 0,.bool false],h)
def F559z(call:CallE):Prop:=∀h X G (t:Int) (s:Nat),h.t.get X=some (xB G t s 2)->X<h.next->Does call 559 [.ptr X 0] h fun v h'=>v=.tup [.int .u8 0,.bool false]∧StepN h h'
def F559a(call:CallE):Prop:=∀h M W n bs G N F X sl lv ws l (t:Int) (s:Nat) (y:Int),EachE h M n bs G N F sl->MemL h M W lv ws l->l.length<=1000000->(∀b,eachS G N F b∨b=X->¬memS M W lv b)->bs+n*2<=5000->n<=64->s<n->h.t.get X=some (xB G t s 0)->X<h.next->0<=t->t<64->ws[bs+(2*s+1)]?=some y->Does call 559 [.ptr X 0] h fun v h'=>v=.tup [.int .u8 14,.bool false]∧∃lv',MemL h' M W lv' (ws.set (bs+(2*s+1)) 0) (l++[⟨t,((bs+(2*s+1):Nat):Int),2,y,0,false⟩])∧EachE h' M n bs G N F sl∧h'.t.get X=some (xB G t s 1)∧(∀b,own lv'=some b->h.next<=b)∧Tch (fun b=>memS M W lv b∨b=X) h h'
def F559b(call:CallE):Prop:=∀h M W n bs G N F X nu lv ws l (t:Int) (s:Nat) (y:Int),EachE h M n bs G N F ((eZ nu).set s (0,true))->MemL h M W lv ws l->l.length<=1000000->(∀b,eachS G N F b∨b=X->¬memS M W lv b)->bs+n*2<=5000->n<=64->s<n->h.t.get X=some (xB G t s 1)->X<h.next->0<=t->t<64->ws[bs+2*s]?=some y->Does call 559 [.ptr X 0] h fun v h'=>v=.tup [.int .u8 13,.bool true]∧∃lv',MemL h' M W lv' (ws.set (bs+2*s) 1) (l++[⟨t,((bs+2*s:Nat):Int),2,y,1,false⟩])∧EachE h' M n bs G N F (eZ (nu.set s 1))∧h'.t.get X=some (xB G t s 2)∧(∀b,own lv'=some b->h.next<=b)∧Tch (fun b=>memS M W lv b∨b=N∨b=X) h h'
def F571z(call:CallE):Prop:=∀(Sx:Nat->Prop) h M bs nb G S es nu (t:Int) s X Y c,GateP Sx h M bs nb G S es nu t s X Y c true->call 571 [.ptr X 0] h=some (.tup [.int .u8 0,.bool false],h)
def F571a(call:CallE):Prop:=∀(Sx:Nat->Prop) h M W bs nb G S es nu (t:Int) s X Y lv ws l,GateP Sx h M bs nb G S es nu t s X Y (-1) false->MemL h M W lv ws l->l.length<=1000000->(∀b,(b=G∨b=S∨b=X∨b=Y∨Sx b∧∃c,h.t.get b=some (rowL [c,.bool true] 609))->¬memS M W lv b)->0<=t->t<64->ws[bs]?=some 0->Does call 571 [.ptr X 0] h fun v h'=>v=.tup [.int .u8 15,.bool false]∧PostSC Sx M W bs nb G S es nu t s X Y ((bs:Int)+1) false lv ws (l++[⟨t,(bs:Int),1,0,0,false⟩]) h h'
def F571b(call:CallE):Prop:=∀(Sx:Nat->Prop) h M W bs nb G S es nu (t:Int) s X Y lv ws l (x:Int),GateP Sx h M bs nb G S es nu t s X Y ((bs:Int)+1) false->MemL h M W lv ws l->l.length<=1000000->(∀b,(b=G∨b=S∨b=X∨b=Y∨Sx b∧∃c,h.t.get b=some (rowL [c,.bool true] 609))->¬memS M W lv b)->0<=t->t<64->ws[bs+1]?=some x->0<=x->x<=1000->Does call 571 [.ptr X 0] h fun v h'=>v=.tup [.int .u8 16,.bool true]∧PostSC Sx M W bs nb G S es nu t s X Y ((bs:Int)+1) true lv (ws.set (bs+1) (x+1)) (l++[⟨t,((bs+1:Nat):Int),3,x,x+1,false⟩]) h h'
def PostSt(M W n bs:Nat)(nu:List Int)(t:Int)(s X Y:Nat)(ek:EK)(d:Nat)(lv:AV)(ws:List Int)(l:List AccT)(h:H)(v:AV)(h':H):Prop:=
 v=.tup [.int .u8 (stK ek.tag bs s t d ws l).1,.bool (stK ek.tag bs s t d ws l).2.1]∧∃lv',MemL h' M W lv' (stK ek.tag bs s t d ws l).2.2.1 (stK ek.tag bs s t d ws l).2.2.2∧PenA h' M n bs nu t s X Y ek (d+1)∧(∀b,own lv'=some b->own lv=some b∨h.next<=b)∧Tch (fun b=>memS M W lv b∨engM ek b∨b=X∨b=Y) h h'
theorem stepPA{call:CallE}(fa:F555a call)(fb:F555b call)(ez:F559z call)(ea:F559a call)(eb:F559b call)(gz:F571z call)(ga:F571a call)(gb:F571b call)
 {h:H} {M W n bs:Nat} {nu:List Int} {t:Int} {s X Y:Nat} {ek:EK} {d:Nat} {lv:AV} {ws:List Int} {l:List AccT} (m:PenA h M n bs nu t s X Y ek d) (mm:MemL h M W lv ws l) (hl:l.length<=1000000) (wi:WInv ek.tag n bs ws 1000) (hn:n<=64) (t0:0<=t) (t1:t<64):
 Does call ek.st [.ptr X 0] h (PostSt M W n bs nu t s X Y ek d lv ws l h):=by
 obtain⟨e,lX,ns,hs,ln,yx⟩:=m
 cases ek with
 |full G N B=>
  cases d with
  |zero=>
   have hlt:bs+s<ws.length:=by have:=wi.l1 rfl;omega
   obtain⟨y,hy⟩:∃y,ws[bs+s]?=some y:=⟨_,List.getElem?_eq_getElem hlt⟩
   obtain⟨v,h',k1,rfl,lv',m1,f1,gX,lo,st⟩:=fa h M W n bs G N B X nu lv ws l t s y e.1 mm hl (fun b hb=>mm.off (hb.elim (fun q=>e.1.off q) fun q=>q▸offR e.2 (by decide) (by decide) (by decide))) (by have:=wi.sz;omega) e.2 lX t0 t1 ns hy
   refine⟨_,h',k1,?_,lv',?_,⟨⟨f1,gX⟩,Nat.lt_of_lt_of_le lX st.next,ns,hs,ln,yx⟩,fun b hb=>.inr (lo b hb),st.next,fun b lb hb=>?_⟩
   ·rfl
   ·show MemL h' M W lv' (ws.set (bs+s) 1) (l++[⟨t,((bs+s:Nat):Int),2,(ws[bs+s]?).getD 0,1,false⟩])
    rw[hy]
    exact m1
   ·by_cases hG:b=G
    ·subst hG
     exact f1.gG.trans e.1.gG.symm
    ·exact st.old b lb fun q=>hb (q.elim .inl fun q=>.inr (q.elim (fun q=>.inl (q.resolve_left hG)) fun q=>.inr (.inl q)))
  |succ d=>
   refine⟨_,h,fb h X _ _ _ e.2,rfl,lv,mm,⟨⟨e.1,e.2⟩,lX,ns,hs,ln,yx⟩,fun b hb=>.inl hb,Nat.le_refl _,fun b lb hb=>rfl⟩
 |each G N F=>
  match d,e with
  |0,e=>
   have hlt:bs+(2*s+1)<ws.length:=by have:=wi.l2 rfl;omega
   obtain⟨y,hy⟩:∃y,ws[bs+(2*s+1)]?=some y:=⟨_,List.getElem?_eq_getElem hlt⟩
   obtain⟨v,h',k1,rfl,lv',m1,f1,gX,lo,st⟩:=ea h M W n bs G N F X _ lv ws l t s y e.1 mm hl (fun b hb=>mm.off (hb.elim (fun q=>e.1.off q) fun q=>q▸offR e.2 (by decide) (by decide) (by decide))) wi.sz hn hs e.2 lX t0 t1 hy
   refine⟨_,h',k1,rfl,lv',?_,⟨⟨f1,gX⟩,Nat.lt_of_lt_of_le lX st.next,ns,hs,ln,yx⟩,fun b hb=>.inr (lo b hb),st.next,fun b lb hb=>?_⟩
   ·show MemL h' M W lv' (ws.set (bs+(2*s+1)) 0) (l++[⟨t,((bs+(2*s+1):Nat):Int),2,(ws[bs+(2*s+1)]?).getD 0,0,false⟩])
    rw[hy]
    exact m1
   ·exact st.old b lb fun q=>hb (q.elim .inl fun q=>.inr (.inr (.inl q)))
  |1,e=>
   have hlt:bs+2*s<ws.length:=by have:=wi.l2 rfl;omega
   obtain⟨y,hy⟩:∃y,ws[bs+2*s]?=some y:=⟨_,List.getElem?_eq_getElem hlt⟩
   obtain⟨v,h',k1,rfl,lv',m1,f1,gX,lo,st⟩:=eb h M W n bs G N F X nu lv ws l t s y e.1 mm hl (fun b hb=>mm.off (hb.elim (fun q=>e.1.off q) fun q=>q▸offR e.2 (by decide) (by decide) (by decide))) wi.sz hn hs e.2 lX t0 t1 hy
   refine⟨_,h',k1,rfl,lv',?_,⟨⟨f1,gX⟩,Nat.lt_of_lt_of_le lX st.next,ns,hs,ln,yx⟩,fun b hb=>.inr (lo b hb),st.next,fun b lb hb=>?_⟩
   ·show MemL h' M W lv' (ws.set (bs+2*s) 1) (l++[⟨t,((bs+2*s:Nat):Int),2,(ws[bs+2*s]?).getD 0,1,false⟩])
    rw[hy]
    exact m1
   ·exact st.old b lb fun q=>hb (q.elim .inl fun q=>.inr (q.elim .inl fun q=>.inr (.inl q)))
  |d+2,e=>
   obtain⟨v,h',k1,rfl,st⟩:=ez h X G t s e.2 lX
   have m2:=(⟨e,lX,ns,hs,ln,yx⟩:PenA h M n bs nu t s X Y (.each G N F) (d+2)).step st
   exact⟨_,h',k1,rfl,lv,mm.step st,⟨m2.e,m2.lX,ns,hs,ln,yx⟩,fun b hb=>.inl hb,st.next,fun b lb hb=>st.old b lb⟩
 |gate G S nb Sx=>
  obtain⟨w0,x,hx,x0,x1⟩:=(show EK.tag (.gate G S nb Sx)=3->_ from wi.l3) rfl
  match d,e with
  |0,⟨es,e⟩=>
   obtain⟨v,h',k1,rfl,lv',m1,f1,lo,st⟩:=ga Sx h M W bs nb G S es nu t s X Y lv ws l e mm hl (fun b hb=>mm.off (e.off hb)) t0 t1 w0
   exact⟨_,h',k1,rfl,lv',m1,⟨⟨es,f1⟩,f1.lX,ns,hs,ln,yx⟩,fun b hb=>.inr (lo b hb),st.next,fun b lb hb=>st.old b lb fun q=>hb (q.elim .inl fun q=>.inr (.inr (.inr q)))⟩
  |1,⟨es,e⟩=>
   obtain⟨v,h',k1,rfl,lv',m1,f1,lo,st⟩:=gb Sx h M W bs nb G S es nu t s X Y lv ws l x e mm hl (fun b hb=>mm.off (e.off hb)) t0 t1 hx x0 x1
   refine⟨_,h',k1,rfl,lv',?_,⟨⟨es,_,f1⟩,f1.lX,ns,hs,ln,yx⟩,fun b hb=>.inr (lo b hb),st.next,fun b lb hb=>st.old b lb fun q=>hb (q.elim .inl fun q=>.inr (.inr (.inr q)))⟩
   show MemL h' M W lv' (ws.set (bs+1) ((ws[bs+1]?).getD 0+1)) (l++[⟨t,((bs+1:Nat):Int),3,(ws[bs+1]?).getD 0,(ws[bs+1]?).getD 0+1,false⟩])
   rw[hx]
   exact m1
  |d+2,⟨es,c,e⟩=>
   exact⟨_,h,gz Sx h M bs nb G S es nu t s X Y c e,rfl,lv,mm,⟨⟨es,c,e⟩,lX,ns,hs,ln,yx⟩,fun b hb=>.inl hb,Nat.le_refl _,fun b lb hb=>rfl⟩
@[go_sem]def c436:CF:=⟨4,(Sq [w 4 333 0,qF 8,b 9 0] (Rq [d 10 0 4,i 11 10,a 12 1,a 13 2,a 14 3,zn 15 11 12 13 14,o 16 15 0,o 17 15 1,Z 18 438 16 17,o 19 18 0,o 20 18 1,a 8 19,a 9 20])),[.tmp 8,.tmp 9]⟩
@[go_sem]def c438:CF:=⟨2,(Sq [qF 4,b 5 0] (Qq (Sq [a 6 1,z 7 54 6 0] (Kq 7 [a 8 1,qF 4,a 5 8] .skip)) (Rq [a 9 0,qt 10 576 9,a 4 10,b 5 0]))),[.tmp 4,.tmp 5]⟩
@[go_sem]def c447:CF:=⟨4,(Sq [w 4 340 0,qF 8,b 9 0] (Rq [d 10 0 4,i 11 10,a 12 1,a 13 2,a 14 3,zn 15 11 12 13 14,o 16 15 0,o 17 15 1,Z 18 449 16 17,o 19 18 0,o 20 18 1,a 8 19,a 9 20])),[.tmp 8,.tmp 9]⟩
@[go_sem]def c449:CF:=⟨2,(Sq [qF 4,b 5 0] (Qq (Sq [a 6 1,z 7 54 6 0] (Kq 7 [a 8 1,qF 4,a 5 8] .skip)) (Rq [a 9 0,qt 10 588 9,a 4 10,b 5 0]))),[.tmp 4,.tmp 5]⟩
@[go_sem]def c481:CF:=⟨4,(Sq [w 4 347 0,qF 8,b 9 0] (Rq [d 10 0 4,i 11 10,a 12 1,a 13 2,a 14 3,zn 15 11 12 13 14,o 16 15 0,o 17 15 1,Z 18 483 16 17,o 19 18 0,o 20 18 1,a 8 19,a 9 20])),[.tmp 8,.tmp 9]⟩
@[go_sem]def c483:CF:=⟨2,(Sq [qF 4,b 5 0] (Qq (Sq [a 6 1,z 7 54 6 0] (Kq 7 [a 8 1,qF 4,a 5 8] .skip)) (Rq [a 9 0,qt 10 605 9,a 4 10,b 5 0]))),[.tmp 4,.tmp 5]⟩
@[go_sem]def c96:CF:=⟨3,(Sq [b 6 0] (Qq (.block 0 (Sq [a 8 0,u 9 94 8,a 7 9] (Kq 7 [b 6 1] (Sq [a 11 1,K 12 3 11 0,a 13 12,s 14 13 1,qn 15 13 3 14 64,r 16 13 15,a 10 16] (Kq 10 [b 6 2] (Sq [a 18 2,K 19 3 18 0,a 20 19,s 21 20 2,s 22 20 0,qi 23 20 22,M 24 20 2 23,L 25 20 24,qw 26 20 3 21 25,r 27 20 26,a 17 27] (Kq 17 [b 6 3] .skip))))))) (Rq [b 6 0]))),[.tmp 6]⟩
@[go_sem]def c27:CF:=⟨4,(Sq [p 8,b 9 0] (Qq (Sq [a 13 0,a 14 1,a 15 2,qa 16 96 13 14 15,a 10 16] (Sq [a 17 10,z 18 54 17 0] (Kq 18 [a 19 10,p 8,a 9 19] .skip))) (Sq [a 21 0,m 22 21,d 23 0 22,i 24 23,a 25 1,a 26 2,a 27 3,zn 28 24 25 26 27,a 20 28,o 29 20 0,o 30 20 1,a 11 29,a 12 30] (Qq (Sq [a 31 12,z 32 54 31 0] (Kq 32 [a 33 12,p 8,a 9 33] .skip)) (Rq [a 34 11,zk 35 0 1 34,w 36 209 35,a 8 36,b 9 0]))))),[.tmp 8,.tmp 9]⟩
@[go_sem]def c8:CF:=⟨4,(Sq [p 8,b 9 0] (Qq (Sq [a 12 0,u 13 30 12] (Kq 13 [p 8,b 9 1] .skip)) (Sq [a 15 0,m 16 15,d 17 0 16,d 18 4 17,i 19 18,a 20 1,a 21 2,a 22 3,qv 23 27 19 20 21 22,a 14 23,o 24 14 0,o 25 14 1,a 10 24,a 11 25] (Qq (Sq [a 26 11,z 27 54 26 0] (Kq 27 [a 28 11,p 8,a 9 28] .skip)) (Sq [a 29 0,m 30 29,d 31 7 30,i 32 31,a 33 2,a 34 3,jp 0 32 33 34] (Rq [a 35 10,a 36 0,a 37 1,a 38 3,⟨some 39,none,.p (.build [.nilp,.nilp,.int .i64 0,.int .i64 0] [(0,1,.t 35),(1,1,.t 36),(2,1,.t 37),(3,1,.t 38)])⟩,w 40 103 39,a 8 40,b 9 0])))))),[.tmp 8,.tmp 9]⟩
@[go_sem]def c29:CF:=⟨1,(Sq [v 2 0,G 3] (Qq (Sq [a 4 0,u 5 89 4] (Kq 5 [v 2 0,G 3] .skip)) (Rq [a 6 0,m 7 6,d 8 0 7,i 9 8,⟨some 10,none,.ci (.t 9) "Step" []⟩,o 11 10 0,o 12 10 1,a 2 11,a 3 12]))),[.tmp 2,.tmp 3]⟩
@[go_sem]def c10:CF:=⟨1,(Sq [v 2 0,G 3] (Qq (Sq [a 4 0,u 5 53 4] (Kq 5 [v 2 0,G 3] .skip)) (Qq (Sq [a 7 0,m 8 7,d 9 0 8,i 10 9,q 11 29 10,a 6 11,o 12 6 0,o 13 6 1,a 2 12,a 3 13] (Sq [a 14 3] (Cq 14 (.drw ⟨[([g 0 0,n 1 15 0,j 2 16 1 1,k 3 17 2,g 4 0,n 5 19 4,j 6 20 5 2,k 7 21 6,g 8 0,n 9 23 8,j 10 24 9 3,k 11 25 10,zc 12 26 11],some (zo 13 18 3 22 7 27 12 30 1)),([],none)],[(0,15),(1,16),(2,17),(3,18),(4,19),(5,20),(6,21),(7,22),(8,23),(9,24),(10,25),(11,26),(12,27),(13,28)],[]⟩) .skip))) (Rq [a 29 2,a 30 3,a 2 29,a 3 30])))),[.tmp 2,.tmp 3]⟩
def EK.en:EK->FuncId
 | .full _ _ _=>424
 | .each _ _ _=>440
 | .gate _ _ _ _=>451
def EK.he:EK->FuncId
 | .full _ _ _=>436
 | .each _ _ _=>447
 | .gate _ _ _ _=>481
def F424(call:CallE):Prop:=∀h M n bs G N B nu (t:Int) (s:Nat) (x:Int),FullE h M n bs G N B nu (List.replicate n false)->0<=t->t<64->nu[s]?=some x->(x=0∨x=1)->Does call 424 [.ptr G 0,.int .i64 t,.int .i64 (s:Int),.int .i64 0] h (PostEA M n bs G N B nu s x t h)
def F440(call:CallE):Prop:=∀h M n bs G N F nu (t:Int) (s:Nat) (x:Int),EachE h M n bs G N F (eZ nu)->0<=t->t<64->nu[s]?=some x->(x=0∨x=1)->Does call 440 [.ptr G 0,.int .i64 t,.int .i64 (s:Int),.int .i64 0] h (PostEB M n bs G N F nu s x t h)
def F451(call:CallE):Prop:=∀(Sx:Nat->Prop) h M bs nb G S es nu (t:Int) (s:Nat) (x:Int),GateE Sx h M bs nb G S es nu->bs<=60000->0<=t->t<64->s<64->nu[s]?=some x->(x=0∨x=1)->Does call 451 [.ptr G 0,.int .i64 t,.int .i64 (s:Int),.int .i64 0] h (PostEC Sx M bs nb G S es nu s x t h)
def PostRaw(M n bs:Nat)(ek:EK)(nu:List Int)(s:Nat)(x t:Int)(h:H)(v:AV)(h':H):Prop:=
 (x=1∧v=.tup [.nilp,.int .i64 8]∧h'=h)∨(x=0∧∃X Y,v=.tup [.ptr X 0,.int .i64 0]∧h.next<=X∧h.next<=Y∧PenA h' M n bs nu t s X Y ek 0∧Tch (engM ek) h h')
theorem rawE{call:CallE}(fa:F424 call)(fb:F440 call)(fc:F451 call){h:H}{M n bs:Nat}{ek:EK}{nu:List Int}{t:Int}{s:Nat}{x:Int}(m:EngA h M n bs nu ek)(hn:n<=64)(hb:bs<=5000)(t0:0<=t)(t1:t<64)(hx:nu[s]?=some x)(x1:x=0∨x=1):
 Does call ek.en [.ptr ek.G 0,.int .i64 t,.int .i64 (s:Int),.int .i64 0] h (PostRaw M n bs ek nu s x t h):=by
 have hsl:s<nu.length:=(List.getElem?_eq_some_iff.1 hx).1
 cases ek with
 |full G N B=>
  have m':FullE h M n bs G N B nu (List.replicate n false):=m
  obtain⟨v,h',k,p⟩:=fa h M n bs G N B nu t s x m' t0 t1 hx x1
  refine⟨v,h',k,?_⟩
  rcases p with p|⟨rfl,X,rfl,lo,lX,gX,e,st⟩
  ·exact .inl p
  ·exact .inr ⟨rfl,X,X,rfl,lo,lo,⟨⟨e,gX⟩,lX,hx,by have:=m'.ln;omega,m'.ln,.inr rfl⟩,st.next,fun b lb hb=>st.old b lb fun q=>hb (.inr q)⟩
 |each G N F=>
  have m':EachE h M n bs G N F (eZ nu):=m
  have ln:=m'.ln
  unfold eZ at ln
  rw[List.length_map]at ln
  obtain⟨v,h',k,p⟩:=fb h M n bs G N F nu t s x m' t0 t1 hx x1
  refine⟨v,h',k,?_⟩
  rcases p with p|⟨rfl,X,rfl,lo,lX,gX,e,st⟩
  ·exact .inl p
  ·exact .inr ⟨rfl,X,X,rfl,lo,lo,⟨⟨e,gX⟩,lX,hx,by omega,ln,.inr rfl⟩,st⟩
 |gate G S nb Sx=>
  obtain⟨ln,es,m'⟩:=m
  obtain⟨v,h',k,p⟩:=fc Sx h M bs nb G S es nu t s x m' (by omega) t0 t1 (by omega) hx x1
  refine⟨v,h',k,?_⟩
  rcases p with p|⟨rfl,X,Y,rfl,lo,lo2,e,st⟩
  ·exact .inl p
  ·exact .inr ⟨rfl,X,Y,rfl,lo,lo2,⟨⟨es,e⟩,e.lX,hx,by omega,ln,.inl rfl⟩,st⟩
def FHold(call:CallE)(f:FuncId)(ty:TypeId):Prop:=∀h,(∀X,call f [.ptr X 0,.int .i64 0] h=some (.tup [.ifc ty (.ptr X 0),.int .i64 0],h))∧call f [.nilp,.int .i64 8] h=some (.tup [.nili,.int .i64 8],h)
def PostHe(M n bs:Nat)(ek:EK)(nu:List Int)(s:Nat)(x t:Int)(h:H)(v:AV)(h':H):Prop:=
 (x=1∧v=.tup [.nili,.int .i64 8]∧StepN h h')∨(x=0∧∃X Y,v=.tup [.ifc ek.ot (.ptr X 0),.int .i64 0]∧h.next<=X∧h.next<=Y∧PenA h' M n bs nu t s X Y ek 0∧Tch (engM ek) h h')
theorem PostHe.of{M n bs:Nat}{ek:EK}{nu:List Int}{s:Nat}{x t:Int}{h h1 h':H}{v:AV}(st:StepN h h1)(p:PostHe M n bs ek nu s x t h1 v h'):PostHe M n bs ek nu s x t h v h':=by
 rcases p with⟨a,b,c⟩|⟨a,X,Y,b,c,d,e,f⟩
 ·exact .inl ⟨a,b,st.trans c⟩
 ·exact .inr ⟨a,X,Y,b,Nat.le_trans st.next c,Nat.le_trans st.next d,e,Nat.le_trans st.next f.next,fun b lb hb=>(f.old b (Nat.lt_of_lt_of_le lb st.next) hb).trans (st.old b lb)⟩
theorem w438(P:Program){call:CallE}{h:H}{X:Nat}:WF P call c438 [.ptr X 0,.int .i64 0] h fun v h'=>v=.tup [.ifc 576 (.ptr X 0),.int .i64 0]∧h'=h:=by
 simp only[go_sem,seval]
theorem w438b(P:Program){call:CallE}{h:H}:WF P call c438 [.nilp,.int .i64 8] h fun v h'=>v=.tup [.nili,.int .i64 8]∧h'=h:=by
 simp only[go_sem,seval]
theorem w436(P:Program)[pt:PT P]{call:CallE}(hh:FHold call 438 576){h:H}{M n bs:Nat}{G N B:Nat}{nu:List Int}{t:Int}{s:Nat}{x:Int}
 (hr:∀h1,StepN h h1->Does call 424 [.ptr G 0,.int .i64 t,.int .i64 (s:Int),.int .i64 0] h1 (PostRaw M n bs (.full G N B) nu s x t h1)):
 WF P call c436 [.agg [.ifc 327 (.ptr G 0)],.int .i64 t,.int .i64 (s:Int),.int .i64 0] h (PostHe M n bs (.full G N B) nu s x t h):=by
 have st0:=StepN.new h (.row (putList 0 [.ifc 327 (.ptr G 0)] T.e) 1 333)
 simp only[go_sem,seval,pt.rwA]
 refine opt_by (hr _ st0) fun v1 h1 p1=>?_
 rcases p1 with⟨rfl,rfl,rfl⟩|⟨rfl,X,Y,rfl,lo,lo2,e,st⟩
 ·have k:=(hh ⟨h.next+1,h.t.set h.next (.row (putList 0 [.ifc 327 (.ptr G 0)] T.e) 1 333)⟩).2
  simp only[go_sem,seval,k]
  exact .inl ⟨rfl,rfl,st0⟩
 ·have k:=(hh h1).1 X
  simp only[go_sem,seval,k]
  exact PostHe.of st0 (.inr ⟨rfl,X,Y,rfl,lo,lo2,e,st⟩)
theorem w449(P:Program){call:CallE}{h:H}{X:Nat}:WF P call c449 [.ptr X 0,.int .i64 0] h fun v h'=>v=.tup [.ifc 588 (.ptr X 0),.int .i64 0]∧h'=h:=by
 simp only[go_sem,seval]
theorem w449b(P:Program){call:CallE}{h:H}:WF P call c449 [.nilp,.int .i64 8] h fun v h'=>v=.tup [.nili,.int .i64 8]∧h'=h:=by
 simp only[go_sem,seval]
theorem w447(P:Program)[pt:PT P]{call:CallE}(hh:FHold call 449 588){h:H}{M n bs:Nat}{G N F:Nat}{nu:List Int}{t:Int}{s:Nat}{x:Int}
 (hr:∀h1,StepN h h1->Does call 440 [.ptr G 0,.int .i64 t,.int .i64 (s:Int),.int .i64 0] h1 (PostRaw M n bs (.each G N F) nu s x t h1)):
 WF P call c447 [.agg [.ifc 334 (.ptr G 0)],.int .i64 t,.int .i64 (s:Int),.int .i64 0] h (PostHe M n bs (.each G N F) nu s x t h):=by
 have st0:=StepN.new h (.row (putList 0 [.ifc 334 (.ptr G 0)] T.e) 1 340)
 simp only[go_sem,seval,pt.rwB]
 refine opt_by (hr _ st0) fun v1 h1 p1=>?_
 rcases p1 with⟨rfl,rfl,rfl⟩|⟨rfl,X,Y,rfl,lo,lo2,e,st⟩
 ·have k:=(hh ⟨h.next+1,h.t.set h.next (.row (putList 0 [.ifc 334 (.ptr G 0)] T.e) 1 340)⟩).2
  simp only[go_sem,seval,k]
  exact .inl ⟨rfl,rfl,st0⟩
 ·have k:=(hh h1).1 X
  simp only[go_sem,seval,k]
  exact PostHe.of st0 (.inr ⟨rfl,X,Y,rfl,lo,lo2,e,st⟩)
theorem w483(P:Program){call:CallE}{h:H}{X:Nat}:WF P call c483 [.ptr X 0,.int .i64 0] h fun v h'=>v=.tup [.ifc 605 (.ptr X 0),.int .i64 0]∧h'=h:=by
 simp only[go_sem,seval]
theorem w483b(P:Program){call:CallE}{h:H}:WF P call c483 [.nilp,.int .i64 8] h fun v h'=>v=.tup [.nili,.int .i64 8]∧h'=h:=by
 simp only[go_sem,seval]
theorem w481(P:Program)[pt:PT P]{call:CallE}(hh:FHold call 483 605){h:H}{M n bs:Nat}{G S nb:Nat}{Sx:Nat->Prop}{nu:List Int}{t:Int}{s:Nat}{x:Int}
 (hr:∀h1,StepN h h1->Does call 451 [.ptr G 0,.int .i64 t,.int .i64 (s:Int),.int .i64 0] h1 (PostRaw M n bs (.gate G S nb Sx) nu s x t h1)):
 WF P call c481 [.agg [.ifc 341 (.ptr G 0)],.int .i64 t,.int .i64 (s:Int),.int .i64 0] h (PostHe M n bs (.gate G S nb Sx) nu s x t h):=by
 have st0:=StepN.new h (.row (putList 0 [.ifc 341 (.ptr G 0)] T.e) 1 347)
 simp only[go_sem,seval,pt.rwC]
 refine opt_by (hr _ st0) fun v1 h1 p1=>?_
 rcases p1 with⟨rfl,rfl,rfl⟩|⟨rfl,X,Y,rfl,lo,lo2,e,st⟩
 ·have k:=(hh ⟨h.next+1,h.t.set h.next (.row (putList 0 [.ifc 341 (.ptr G 0)] T.e) 1 347)⟩).2
  simp only[go_sem,seval,k]
  exact .inl ⟨rfl,rfl,st0⟩
 ·have k:=(hh h1).1 X
  simp only[go_sem,seval,k]
  exact PostHe.of st0 (.inr ⟨rfl,X,Y,rfl,lo,lo2,e,st⟩)
def FHe(call:CallE):Prop:=∀h M n bs ek nu (t:Int) (s:Nat) (x:Int),EngA h M n bs nu ek->n<=64->bs<=5000->0<=t->t<64->nu[s]?=some x->(x=0∨x=1)->Does call ek.he [.agg [.ifc ek.rt (.ptr ek.G 0)],.int .i64 t,.int .i64 (s:Int),.int .i64 0] h (PostHe M n bs ek nu s x t h)
theorem w96{h:H}{R n:Nat}{a b:AV}(gR:h.t.get R=some (rowL [a,b,.int .i64 (n:Int)] 206)){t:Int}(t0:0<=t)(t1:t<64){s:Nat}(hs:s<n):WF P call c96 [.ptr R 0,.int .i64 t,.int .i64 (s:Int)] h fun v h'=>v=.int .i64 0∧h'=h:=by
 have e1:¬t<0:=by omega
 have e2:¬(64:Int)<=t:=by omega
 have e3:¬(s:Int)<0:=by omega
 have e4:¬(n:Int)<=(s:Int):=by omega
 have e5:(s:Int)<(n:Int):=by omega
 simp only[go_sem,seval,gR,e1,e2,e3,e4,e5,t1]
def F96(call:CallE):Prop:=∀h R (n:Nat) a b (t:Int) (s:Nat),h.t.get R=some (rowL [a,b,.int .i64 (n:Int)] 206)->0<=t->t<64->s<n->call 96 [.ptr R 0,.int .i64 t,.int .i64 (s:Int)] h=some (.int .i64 0,h)
def PostQ(M n bs:Nat)(ek:EK)(nu:List Int)(s:Nat)(x t:Int)(h:H)(v:AV)(h':H):Prop:=
 (x=1∧v=.tup [.nilp,.int .i64 8]∧StepN h h')∨(x=0∧∃X Y Q,v=.tup [.ptr Q 0,.int .i64 0]∧h.next<=X∧h.next<=Y∧h.next<=Q∧Q<h'.next∧h'.t.get Q=some (rowL [.ifc ek.ot (.ptr X 0)] 209)∧PenA h' M n bs nu t s X Y ek 0∧Tch (engM ek) h h')
theorem meth_en(P:Program)[pt:PT P](g:Nat->Option AO)(ek:EK):methA P g 8 ek.ht (.agg [.ifc ek.rt (.ptr ek.G 0)]) "Enter"=some (ek.he,.agg [.ifc ek.rt (.ptr ek.G 0)]):=by
 cases ek with
 |full G N B=>exact pt.enA g G
 |each G N F=>exact pt.enB g G
 |gate G S nb Sx=>exact pt.enC g G
theorem meth_st(P:Program)[pt:PT P](g:Nat->Option AO)(ek:EK)(X:Nat):methA P g 8 ek.ot (.ptr X 0) "Step"=some (ek.st,.ptr X 0):=by
 cases ek with
 |full G N B=>exact pt.stA g X
 |each G N F=>exact pt.stB g X
 |gate G S nb Sx=>exact pt.stC g X
theorem w27(h96:F96 call)(hHe:FHe call){h:H}{M R n bs:Nat}{ek:EK}{b:AV}{nu:List Int}{t:Int}{s:Nat}{x:Int}(gR:h.t.get R=some (rowL [.ifc ek.ht (.agg [.ifc ek.rt (.ptr ek.G 0)]),b,.int .i64 (n:Int)] 206))(m:EngA h M n bs nu ek)(hn:n<=64)(hb:bs<=5000)(t0:0<=t)(t1:t<64)(hs:s<n)(hx:nu[s]?=some x)(x1:x=0∨x=1):
 WF P call c27 [.ptr R 0,.int .i64 t,.int .i64 (s:Int),.int .i64 0] h (PostQ M n bs ek nu s x t h):=by
 have k1:=h96 h R n _ _ t s gR t0 t1 hs
 have me:=fun g=>meth_en P g ek
 have nk:¬1099511627776<=ek.he:=by cases ek<;>(simp only[EK.he,EK.st];decide)
 simp only[go_sem,seval,k1,gR,me,nk]
 refine opt_by (hHe h M n bs ek nu t s x m hn hb t0 t1 hx x1) fun v1 h1 p1=>?_
 rcases p1 with⟨rfl,rfl,st⟩|⟨rfl,X,Y,rfl,lo,lo2,e,st⟩
 ·simp only[go_sem,seval]
  exact .inl ⟨rfl,rfl,st⟩
 ·simp only[go_sem,seval]
  have st1:=StepN.new h1 (.row (putList 0 [.ifc ek.ot (.ptr X 0)] T.e) 1 209)
  exact .inr ⟨rfl,X,Y,h1.next,rfl,lo,lo2,st.next,Nat.lt_succ_self _,by simp only[go_sem,seval];rfl,e.step st1,Nat.le_trans st.next st1.next,fun b lb hb=>(st1.old b (Nat.lt_of_lt_of_le lb st.next)).trans (st.old b lb hb)⟩
def F27(call:CallE):Prop:=∀h M R (n bs:Nat) ek b nu (t:Int) (s:Nat) (x:Int),h.t.get R=some (rowL [.ifc ek.ht (.agg [.ifc ek.rt (.ptr ek.G 0)]),b,.int .i64 (n:Int)] 206)->EngA h M n bs nu ek->n<=64->bs<=5000->0<=t->t<64->s<n->nu[s]?=some x->(x=0∨x=1)->Does call 27 [.ptr R 0,.int .i64 t,.int .i64 (s:Int),.int .i64 0] h (PostQ M n bs ek nu s x t h)
def FSt(call:CallE):Prop:=∀h M W n bs nu (t:Int) s X Y ek d lv ws l,PenA h M n bs nu t s X Y ek d->MemL h M W lv ws l->l.length<=1000000->WInv ek.tag n bs ws 1000->n<=64->0<=t->t<64->Does call ek.st [.ptr X 0] h (PostSt M W n bs nu t s X Y ek d lv ws l h)
theorem w29(hSt:FSt call){h:H}{M W n bs:Nat}{nu:List Int}{t:Int}{s X Y Q:Nat}{ek:EK}{d:Nat}{lv:AV}{ws:List Int}{l:List AccT}(gQ:h.t.get Q=some (rowL [.ifc ek.ot (.ptr X 0)] 209))(m:PenA h M n bs nu t s X Y ek d)(mm:MemL h M W lv ws l)(hl:l.length<=1000000)(wi:WInv ek.tag n bs ws 1000)(hn:n<=64)(t0:0<=t)(t1:t<64):
 WF P call c29 [.ptr Q 0] h (PostSt M W n bs nu t s X Y ek d lv ws l h):=by
 have me:=fun g=>meth_st P g ek X
 have nk:¬1099511627776<=ek.st:=by cases ek<;>(simp only[EK.he,EK.st];decide)
 simp only[go_sem,seval,gQ,me,nk]
 refine opt_by (hSt h M W n bs nu t s X Y ek d lv ws l m mm hl wi hn t0 t1) fun v1 h1 p1=>?_
 obtain⟨rfl,p1⟩:=p1
 simp only[go_sem,seval]
 exact⟨rfl,p1⟩
def F29(call:CallE):Prop:=∀h M W n bs nu (t:Int) s X Y Q ek d lv ws l,h.t.get Q=some (rowL [.ifc ek.ot (.ptr X 0)] 209)->PenA h M n bs nu t s X Y ek d->MemL h M W lv ws l->l.length<=1000000->WInv ek.tag n bs ws 1000->n<=64->0<=t->t<64->Does call 29 [.ptr Q 0] h (PostSt M W n bs nu t s X Y ek d lv ws l h)
structure AdA where
 A:Nat
 L:Nat
 M:Nat
 Po:Nat
 To:Nat
 R:Nat
 W:Nat
 V:Nat
 Gm:Nat
 O:Nat
 kd:AV
structure SA(h:H)(a:AdA)(ek:EK)(n:Nat)(lv ev:AV)(ws:List Int)(l:List AccT)(es:List EvT):Prop where
 mm:MemL h a.M a.W lv ws l
 gA:h.t.get a.A=some (rowL [.ptr a.L 0,.ptr a.M 0,.ptr a.Po 0,.ptr a.To 0,.ptr a.R 0,.nils,ev,.map a.V,.map a.Gm] 100)
 oe:Own 4 231 h ev es.length (evL es)
 gV:∃m k,h.t.get a.V=some (.map m k)∧∀e∈m,∃i:Int,e.1=.int .i64 i
 gR:h.t.get a.R=some (rowL [.ifc ek.ht (.agg [.ifc ek.rt (.ptr ek.G 0)]),a.kd,.int .i64 (n:Int)] 206)
 lA:a.A<h.next
 lV:a.V<h.next
 lR:a.R<h.next
def saF(a:AdA)(lv ev:AV)(b:Nat):Prop:=memS a.M a.W lv b∨b=a.A∨own ev=some b∨b=a.V∨b=a.R
theorem SA.keep{h h':H}{a:AdA}{ek:EK}{n:Nat}{lv ev:AV}{ws:List Int}{l:List AccT}{es:List EvT}(m:SA h a ek n lv ev ws l es)(hn:h.next<=h'.next)(k:∀b,b<h.next->saF a lv ev b->h'.t.get b=h.t.get b):SA h' a ek n lv ev ws l es:=by
 obtain⟨mv,c,gV,iV⟩:=m.gV
 exact⟨m.mm.keep hn fun b lb hb=>k b lb (.inl hb),(k _ m.lA (.inr (.inl rfl))).trans m.gA,m.oe.keep hn fun b hb=>k b (m.oe.lt hb) (.inr (.inr (.inl hb))),⟨mv,c,(k _ m.lV (.inr (.inr (.inr (.inl rfl))))).trans gV,iV⟩,(k _ m.lR (.inr (.inr (.inr (.inr rfl))))).trans m.gR,Nat.lt_of_lt_of_le m.lA hn,Nat.lt_of_lt_of_le m.lV hn,Nat.lt_of_lt_of_le m.lR hn⟩
theorem SA.step{h h':H}{a:AdA}{ek:EK}{n:Nat}{lv ev:AV}{ws:List Int}{l:List AccT}{es:List EvT}(m:SA h a ek n lv ev ws l es)(s:StepN h h'):SA h' a ek n lv ev ws l es:=m.keep s.next fun b lb _=>s.old b lb
theorem findA_ok{k:Int}:∀{es:List (AV×AV×Nat)} {i:Nat},(∀e∈es,∃i:Int,e.1=.int .i64 i)->∃r,findA 0 (.int .i64 k) es i=some r
 | [],i,_=>⟨_,rfl⟩
 |e::es,i,h=>by
  obtain⟨j,hj⟩:=h e List.mem_cons_self
  obtain⟨r,hr⟩:=findA_ok (k:=k) (es:=es) (i:=i+1) fun e he=>h e (List.mem_cons_of_mem _ he)
  unfold findA
  rw[hj,keyEq_int]
  cases decide (k=j)with
  |true=>exact⟨_,rfl⟩
  |false=>exact⟨r,hr⟩
structure PZ(h:H)(a:AdA)(n bs:Nat)(nu:List Int)(t:Int)(s X Y Q Z:Nat)(ek:EK)(d:Nat):Prop where
 p:PenA h a.M n bs nu t s X Y ek d
 gQ:h.t.get Q=some (rowL [.ifc ek.ot (.ptr X 0)] 209)
 gZ:h.t.get Z=some (rowL [.ptr Q 0,.ptr a.A 0,.int .i64 t,.int .i64 0] 103)
 lQ:Q<h.next
 lZ:Z<h.next
theorem PZ.keep{h h':H}{a:AdA}{n bs:Nat}{nu:List Int}{t:Int}{s X Y Q Z:Nat}{ek:EK}{d:Nat}(m:PZ h a n bs nu t s X Y Q Z ek d)(hn:h.next<=h'.next)(k:∀b,b<h.next->engF ek b∨b=X∨b=Y∨b=Q∨b=Z->h'.t.get b=h.t.get b):PZ h' a n bs nu t s X Y Q Z ek d:=
 ⟨m.p.keep hn fun b lb hb=>k b lb (hb.elim (fun q=>.inl q.f) fun hb=>.inr (hb.elim .inl fun hb=>.inr (.inl hb))),(k Q m.lQ (.inr (.inr (.inr (.inl rfl))))).trans m.gQ,(k Z m.lZ (.inr (.inr (.inr (.inr rfl))))).trans m.gZ,Nat.lt_of_lt_of_le m.lQ hn,Nat.lt_of_lt_of_le m.lZ hn⟩
theorem PZ.step{h h':H}{a:AdA}{n bs:Nat}{nu:List Int}{t:Int}{s X Y Q Z:Nat}{ek:EK}{d:Nat}(m:PZ h a n bs nu t s X Y Q Z ek d)(st:StepN h h'):PZ h' a n bs nu t s X Y Q Z ek d:=m.keep st.next fun b lb _=>st.old b lb
theorem EngA.offM{h:H}{M n bs:Nat}{nu:List Int}{ek:EK}(m:EngA h M n bs nu ek){b:Nat}(hb:engM ek b):(∀c k e,h.t.get b=some (.row c k e)->e=51∨e=4∨e=593)∧∀es k,h.t.get b=some (.map es k)->∃G S nb Sx,ek=.gate G S nb Sx∧b=S:=by
 cases ek with
 |full G N B=>
  have m':FullE h M n bs G N B nu (List.replicate n false):=m
  rcases hb with rfl|rfl
  ·exact⟨fun c k e g=>by rw[m'.gN]at g;simp at g;exact .inl g.2.2.symm,fun es k g=>by rw[m'.gN]at g;cases g⟩
  ·exact⟨fun c k e g=>by rw[m'.gB]at g;simp at g;exact .inr (.inl g.2.2.symm),fun es k g=>by rw[m'.gB]at g;cases g⟩
 |each G N F=>
  have m':EachE h M n bs G N F (eZ nu):=m
  obtain rfl:b=N:=hb
  exact⟨fun c k e g=>by rw[m'.gN]at g;simp at g;exact .inr (.inr g.2.2.symm),fun es k g=>by rw[m'.gN]at g;cases g⟩
 |gate G S nb Sx=>
  obtain⟨_,es,m'⟩:=m
  obtain⟨clk,gS⟩:=m'.gS
  obtain rfl:b=S:=hb
  exact⟨fun c k e g=>(by rw[gS]at g;cases g),fun es k g=>⟨_,_,_,_,rfl,rfl⟩⟩
def VS(a:AdA)(ek:EK):Prop:=¬engF ek a.V
def PostB(a:AdA)(n bs:Nat)(ek:EK)(nu:List Int)(s:Nat)(x t:Int)(lv ev:AV)(ws:List Int)(l:List AccT)(es:List EvT)(h:H)(v:AV)(h':H):Prop:=
 (x=1∧v=.tup [.nilp,.int .i64 8]∧StepN h h')∨(x=0∧∃X Y Q Z,v=.tup [.ptr Z 0,.int .i64 0]∧h.next<=X∧h.next<=Y∧h.next<=Q∧h.next<=Z∧SA h' a ek n lv ev ws l es∧PZ h' a n bs nu t s X Y Q Z ek 0∧Tch (fun b=>engM ek b∨b=a.V) h h')
theorem mem_mod{α:Type}{f:α->α}:∀{l:List α} {i:Nat} {e:α},e∈l.modify i f->e∈l∨∃x,e=f x
 | [],i,e,h=>by simp at h
 |a::l,0,e,h=>by
  rw[List.modify_zero_cons]at h
  rcases List.mem_cons.1 h with h|h
  ·exact .inr ⟨a,h⟩
  ·exact .inl (List.mem_cons_of_mem _ h)
 |a::l,i+1,e,h=>by
  rw[List.modify_succ_cons]at h
  rcases List.mem_cons.1 h with h|h
  ·exact .inl (h▸List.mem_cons_self)
  ·exact(mem_mod h).imp (List.mem_cons_of_mem _) id
theorem w8(h27:F27 call){h:H}{a:AdA}{n bs:Nat}{ek:EK}{nu:List Int}{t:Int}{s:Nat}{x:Int}{lv ev:AV}{ws:List Int}{l:List AccT}{es:List EvT}(sa:SA h a ek n lv ev ws l es)(m:EngA h a.M n bs nu ek)(vs:VS a ek)(hn:n<=64)(hb:bs<=5000)(t0:0<=t)(t1:t<64)(hs:s<n)(hx:nu[s]?=some x)(x1:x=0∨x=1):
 WF P call c8 [.ptr a.A 0,.int .i64 t,.int .i64 (s:Int),.int .i64 0] h (PostB a n bs ek nu s x t lv ev ws l es h):=by
 have gA:=sa.gA
 simp only[go_sem,seval,gA]
 refine opt_by (h27 h a.M a.R n bs ek a.kd nu t s x sa.gR m hn hb t0 t1 hs hx x1) fun v1 h1 p1=>?_
 rcases p1 with⟨rfl,rfl,st⟩|⟨rfl,X,Y,Q,rfl,lo,lo2,lo3,lQ,gQ,e,st⟩
 ·simp only[go_sem,seval]
  exact .inl ⟨rfl,rfl,st⟩
 ·obtain⟨mv,clk,gV,iV⟩:=sa.gV
  have offk:∀b,saF a lv ev b->¬engM ek b:=fun b hb hm=>by
   obtain⟨o1,o2⟩:=m.offM hm
   rcases hb with(rfl|rfl|q)|rfl|q|rfl|rfl
   ·have:=o1 _ _ _ sa.mm.g;revert this;decide
   ·have:=o1 _ _ _ sa.mm.w;revert this;decide
   ·obtain⟨c,k,g⟩:=own_row sa.mm.l q
    have:=o1 _ _ _ g;revert this;decide
   ·have:=o1 _ _ _ sa.gA;revert this;decide
   ·obtain⟨c,k,g⟩:=own_row sa.oe q
    have:=o1 _ _ _ g;revert this;decide
   ·obtain⟨G,S,nb,Sx,rfl,q⟩:=o2 _ _ gV
    exact vs (.inr (.inl q))
   ·have:=o1 _ _ _ sa.gR;revert this;decide
  have sa1:=sa.keep st.next fun b lb hb=>st.old b lb (offk b hb)
  have gA1:=sa1.gA
  have gV1:=(st.old a.V sa.lV (offk _ (.inr (.inr (.inr (.inl rfl)))))).trans gV
  obtain⟨r,hr⟩:=findA_ok (k:=(s:Int)) (i:=0) iV
  have kA:keyA 0 (.int .i64 (s:Int))=true:=rfl
  have AV':¬a.A=a.V:=fun q=>by
   have g:=sa.gA
   rw[q,gV]at g
   cases g
  have dV:∀b,saF a lv ev b->b≠a.V->¬b=a.V:=fun b _ h=>h
  have n1:∀b,b<h.next->¬b=h1.next:=fun b lb=>by have:=st.next;omega
  have nV:∀b,memS a.M a.W lv b∨b=a.A∨own ev=some b∨b=a.R->¬b=a.V:=fun b hb q=>by
   rw[q]at hb
   rcases hb with(hb|hb|hb)|hb|hb|hb
   ·have g:=sa.mm.g;rw[←hb,gV]at g;cases g
   ·have g:=sa.mm.w;rw[←hb,gV]at g;cases g
   ·obtain⟨c,k,g⟩:=own_row sa.mm.l hb
    rw[gV]at g;cases g
   ·exact AV' hb.symm
   ·obtain⟨c,k,g⟩:=own_row sa.oe hb
    rw[gV]at g;cases g
   ·have g:=sa.gR;rw[←hb,gV]at g;cases g
  have XV:¬X=a.V:=by have:=sa.lV;omega
  have YV:¬Y=a.V:=by have:=sa.lV;omega
  have QV:¬Q=a.V:=by have:=sa.lV;omega
  have fin:∀m' k',(∀q∈m',∃i:Int,q.1=AV.int .i64 i)->PostB a n bs ek nu s 0 t lv ev ws l es h (.tup [.ptr h1.next 0,.int .i64 0]) ⟨h1.next+1,(h1.t.set a.V (.map m' k')).set h1.next (.row (putList 0 [.ptr Q 0,.ptr a.A 0,.int .i64 t,.int .i64 0] T.e) 4 103)⟩:=fun m' k' im=>by
   have kp:∀b,b<h1.next->¬b=a.V->((h1.t.set a.V (.map m' k')).set h1.next (.row (putList 0 [.ptr Q 0,.ptr a.A 0,.int .i64 t,.int .i64 0] T.e) 4 103)).get b=h1.t.get b:=fun b lb hb=>by
        have q:¬b=h1.next:=by omega
        simp only[go_sem,seval,q,hb]
   have sN:=st.next
   have V1:¬a.V=h1.next:=n1 _ sa.lV
   refine .inr ⟨rfl,X,Y,Q,h1.next,rfl,lo,lo2,lo3,sN,⟨sa1.mm.keep (Nat.le_succ _) fun b lb hb=>kp b lb (nV b (.inl hb)),(kp _ sa1.lA AV').trans gA1,sa1.oe.keep (Nat.le_succ _) fun b hb=>kp b (sa1.oe.lt hb) (nV b (.inr (.inr (.inl hb)))),⟨m',k',by simp[go_sem,V1],im⟩,(kp _ sa1.lR (nV _ (.inr (.inr (.inr rfl))))).trans sa1.gR,Nat.lt_succ_of_lt sa1.lA,Nat.lt_succ_of_lt sa1.lV,Nat.lt_succ_of_lt sa1.lR⟩,⟨e.keep (Nat.le_succ _) fun b lb hb=>kp b lb fun q=>?_,(kp Q lQ QV).trans gQ,by simp only[go_sem,seval];rfl,Nat.lt_succ_of_lt lQ,Nat.lt_succ_self _⟩,Nat.le_succ_of_le sN,fun b lb hb=>?_⟩
   ·rcases hb with hb|hb|hb
    ·exact vs (q▸hb.f)
    ·exact XV (hb▸q)
    ·exact YV (hb▸q)
   ·exact(kp b (by omega) fun q=>hb (.inr q)).trans (st.old b lb fun q=>hb (.inl q))
  cases r with
  |none=>
   simp only[go_sem,seval,gA1,gV1,kA,hr,evM,AV']
   exact fin _ _ fun q hq=>by
        rcases List.mem_append.1 hq with hq|hq
        ·exact iV q hq
        ·rw[List.mem_singleton.1 hq]
         exact⟨_,rfl⟩
  |some r=>
   obtain⟨i,r⟩:=r
   simp only[go_sem,seval,gA1,gV1,kA,hr,evM,AV']
   exact fin _ _ fun q hq=>by
        rcases mem_mod hq with hq|⟨z,rfl⟩
        ·exact iV q hq
        ·exact⟨_,rfl⟩
def F8(call:CallE):Prop:=∀h a n bs ek nu (t:Int) (s:Nat) (x:Int) lv ev ws l es,SA h a ek n lv ev ws l es->EngA h a.M n bs nu ek->VS a ek->n<=64->bs<=5000->0<=t->t<64->s<n->nu[s]?=some x->(x=0∨x=1)->Does call 8 [.ptr a.A 0,.int .i64 t,.int .i64 (s:Int),.int .i64 0] h (PostB a n bs ek nu s x t lv ev ws l es h)
def F30(call:CallE):Prop:=∀h B cs ev l (t k v:Int),h.t.get B=some (rowL cs 100)->B<h.next->cs.length=9->cs[5]?=some .nils->cs[6]?=some ev->Own 4 231 h ev l.length (evL l)->own ev≠some B->l.length<=1000000->Does call 30 [.ptr B 0,.int .i64 t,.int .u8 k,.int .u64 v] h fun v' h'=>v'=.tup []∧∃ev',h'.t.get B=some (rowL (cs.set 6 ev') 100)∧Own 4 231 h' ev' (l.length+1) (evL (l++[⟨0,t,k,v⟩]))∧own ev'≠some B∧(∀b,own ev'=some b->h.next<=b)∧Tch (fun b=>b=B∨own ev=some b) h h'
def mutA(a:AdA)(ek:EK)(X Y:Nat)(lv ev:AV)(b:Nat):Prop:=memS a.M a.W lv b∨engM ek b∨b=X∨b=Y∨b=a.A∨own ev=some b
def PostT(a:AdA)(n bs:Nat)(ek:EK)(nu:List Int)(s:Nat)(t:Int)(X Y Q Z d:Nat)(lv ev:AV)(ws:List Int)(l:List AccT)(es:List EvT)(h:H)(v:AV)(h':H):Prop:=
 v=.tup [.int .u8 (stK ek.tag bs s t d ws l).1,.bool (stK ek.tag bs s t d ws l).2.1]∧∃lv' ev',SA h' a ek n lv' ev' (stK ek.tag bs s t d ws l).2.2.1 (stK ek.tag bs s t d ws l).2.2.2 (if(stK ek.tag bs s t d ws l).2.1 then es++[⟨0,t,1,0⟩]else es)∧PZ h' a n bs nu t s X Y Q Z ek (d+1)∧
  (∀b,own lv'=some b->own lv=some b∨h.next<=b)∧(∀b,own ev'=some b->own ev=some b∨h.next<=b)∧Tch (mutA a ek X Y lv ev) h h'
theorem w10(h29:F29 call)(h30:F30 call){h:H}{a:AdA}{n bs:Nat}{ek:EK}{nu:List Int}{t:Int}{s X Y Q Z d:Nat}{lv ev:AV}{ws:List Int}{l:List AccT}{es:List EvT}(sa:SA h a ek n lv ev ws l es)(pz:PZ h a n bs nu t s X Y Q Z ek d)(vs:VS a ek)(hn:n<=64)(hl:l.length<=1000000)(he:es.length<=1000000)(wi:WInv ek.tag n bs ws 1000)(t0:0<=t)(t1:t<64):
 WF P call c10 [.ptr Z 0] h (PostT a n bs ek nu s t X Y Q Z d lv ev ws l es h):=by
 have gZ:=pz.gZ
 obtain⟨mv,clk,gV,iV⟩:=sa.gV
 have tyR:∀{b:Nat} {c0:T AV} {n0:Nat} {e0:TypeId},h.t.get b=some (.row c0 n0 e0)->(e0≠51∧e0≠4∧e0≠593∧e0≠578∧e0≠595∧e0≠612∧e0≠609)->e0≠197->e0≠194->e0≠296->¬(memS a.M a.W lv b∨engM ek b∨b=X∨b=Y):=fun{b c0 n0 e0} g he h1 h2 h3 q=>by
  rcases q with q|q
  ·exact sa.mm.off (offR g h1 h2 h3) q
  ·obtain⟨a1,a2,a3,a4,a5,a6,a7⟩:=he
   rcases(pz.p.ty q).1 _ _ _ g with q|q|q|q|q|q|q<;>contradiction
 have dA:=tyR sa.gA (by decide) (by decide) (by decide) (by decide)
 have dR:=tyR sa.gR (by decide) (by decide) (by decide) (by decide)
 have dQ:=tyR pz.gQ (by decide) (by decide) (by decide) (by decide)
 have dZ:=tyR pz.gZ (by decide) (by decide) (by decide) (by decide)
 have dE:∀b,own ev=some b->¬(memS a.M a.W lv b∨engM ek b∨b=X∨b=Y):=fun b hb=>by
  obtain⟨c,k,g⟩:=own_row sa.oe hb
  exact tyR g (by decide) (by decide) (by decide) (by decide)
 have dV:¬(memS a.M a.W lv a.V∨engM ek a.V∨a.V=X∨a.V=Y):=fun q=>by
  rcases q with q|q
  ·exact sa.mm.off (offM gV) q
  ·exact vs ((pz.p.ty q).2 _ _ gV).2
 simp only[go_sem,seval,gZ]
 refine opt_by (h29 h a.M a.W n bs nu t s X Y Q ek d lv ws l pz.gQ pz.p sa.mm hl wi hn t0 t1) fun v1 h1 p1=>?_
 obtain⟨rfl,lv',m1,pen1,lo1,st1⟩:=p1
 have nx1:=st1.next
 have gA1:=(st1.old _ sa.lA dA).trans sa.gA
 have oe1:=sa.oe.keep nx1 fun b hb=>st1.old b (sa.oe.lt hb) (dE b hb)
 have gZ1:=(st1.old _ pz.lZ dZ).trans gZ
 have gQ1:=(st1.old _ pz.lQ dQ).trans pz.gQ
 have gR1:=(st1.old _ sa.lR dR).trans sa.gR
 have gV1:=(st1.old _ sa.lV dV).trans gV
 have sa1:SA h1 a ek n lv' ev (stK ek.tag bs s t d ws l).2.2.1 (stK ek.tag bs s t d ws l).2.2.2 es:=⟨m1,gA1,oe1,⟨mv,clk,gV1,iV⟩,gR1,Nat.lt_of_lt_of_le sa.lA nx1,Nat.lt_of_lt_of_le sa.lV nx1,Nat.lt_of_lt_of_le sa.lR nx1⟩
 have pz1:PZ h1 a n bs nu t s X Y Q Z ek (d+1):=⟨pen1,gQ1,gZ1,Nat.lt_of_lt_of_le pz.lQ nx1,Nat.lt_of_lt_of_le pz.lZ nx1⟩
 unfold PostT
 generalize hk:stK ek.tag bs s t d ws l=k at*
 obtain⟨pc,dn,ws',l'⟩:=k
 cases dn with
 |false=>
  simp only[go_sem,seval]
  exact⟨lv',ev,sa1,pz1,lo1,fun b hb=>.inl hb,nx1,fun b lb hb=>st1.old b lb fun q=>hb (q.elim .inl fun q=>.inr (q.elim .inl fun q=>.inr (q.elim .inl fun q=>.inr (.inl q))))⟩
 |true=>
  have f0:fw .u64 0=0:=rfl
  have nEA:own ev≠some a.A:=fun q=>by
   obtain⟨c,k,g⟩:=own_row sa.oe q
   have g2:=sa.gA
   rw[g]at g2
   simp[rowL]at g2
  simp only[go_sem,seval,gZ1,f0]
  refine opt_by (h30 h1 a.A _ ev es t 1 0 gA1 sa1.lA rfl rfl rfl oe1 nEA he) fun v2 h2 p2=>?_
  obtain⟨rfl,ev',gA2,oe2,nE2,lo2,st2⟩:=p2
  have nx2:=st2.next
  have gZ2:=st2.old Z pz1.lZ fun q=>by
   rcases q with q|q
   ·have g:=sa.gA
    rw[←q,gZ]at g
    simp[rowL]at g
   ·obtain⟨c,k,g⟩:=own_row sa.oe q
    rw[gZ]at g
    simp[rowL]at g
  have gZ3:=gZ2.trans gZ1
  simp only[go_sem,seval,nx2,gZ3,gZ1]
  have k1:∀b,b<h1.next->b≠a.A->own ev≠some b->h2.t.get b=h1.t.get b:=fun b lb n1 n2=>st2.old b lb fun q=>q.elim n1 n2
  have nA:∀{b:Nat} {c0:T AV} {n0:Nat} {e0:TypeId},h1.t.get b=some (.row c0 n0 e0)->e0≠100->b≠a.A:=fun{b c0 n0 e0} g he q=>by
   rw[q,gA1]at g
   simp[rowL]at g
   exact he g.2.2.symm
  have nE:∀{b:Nat} {c0:T AV} {n0:Nat} {e0:TypeId},h1.t.get b=some (.row c0 n0 e0)->e0≠231->own ev≠some b:=fun{b c0 n0 e0} g he q=>by
   obtain⟨c,k,g2⟩:=own_row oe1 q
   rw[g2]at g
   simp at g
   exact he g.2.2.symm
  have kR:∀{b:Nat} {c0:T AV} {n0:Nat} {e0:TypeId},b<h1.next->h1.t.get b=some (.row c0 n0 e0)->e0≠100->e0≠231->h2.t.get b=h1.t.get b:=fun lb g n1 n2=>k1 _ lb (nA g n1) (nE g n2)
  have kV:∀{b:Nat} {m k},b<h1.next->h1.t.get b=some (.map m k)->h2.t.get b=h1.t.get b:=fun{b m k} lb g=>k1 _ lb (fun q=>by rw[q,gA1]at g;cases g) fun q=>by
   obtain⟨c,k,g2⟩:=own_row oe1 q
   rw[g2]at g
   cases g
  have mm2:MemL h2 a.M a.W lv' ws' l':=m1.keep nx2 fun b lb hb=>by
   rcases hb with rfl|rfl|q
   ·exact kR lb m1.g (by decide) (by decide)
   ·exact kR lb m1.w (by decide) (by decide)
   ·obtain⟨c,k,g2⟩:=own_row m1.l q
    exact kR lb g2 (by decide) (by decide)
  have pen2:PenA h2 a.M n bs nu t s X Y ek (d+1):=pen1.keep nx2 fun b lb hb=>by
   rcases pen1.off hb with⟨c,k,e,g,a1,a2⟩|⟨es',k,g⟩
   ·exact kR lb g a1 a2
   ·exact kV lb g
  refine⟨lv',ev',⟨mm2,gA2,by rw[List.length_append];exact oe2,⟨mv,clk,(kV sa1.lV gV1).trans gV1,iV⟩,(kR sa1.lR gR1 (by decide) (by decide)).trans gR1,Nat.lt_of_lt_of_le sa1.lA nx2,Nat.lt_of_lt_of_le sa1.lV nx2,Nat.lt_of_lt_of_le sa1.lR nx2⟩,⟨pen2,(kR pz1.lQ gQ1 (by decide) (by decide)).trans gQ1,gZ3,Nat.lt_of_lt_of_le pz1.lQ nx2,Nat.lt_of_lt_of_le pz1.lZ nx2⟩,lo1,fun b hb=>.inr (Nat.le_trans nx1 (lo2 b hb)),Nat.le_trans nx1 nx2,fun b lb hb=>?_⟩
  have n2:b≠a.A:=fun q=>hb (.inr (.inr (.inr (.inr (.inl q)))))
  have n3:own ev≠some b:=fun q=>hb (.inr (.inr (.inr (.inr (.inr q)))))
  exact(k1 b (Nat.lt_of_lt_of_le lb nx1) n2 n3).trans (st1.old b lb fun q=>hb (q.elim .inl fun q=>.inr (q.elim .inl fun q=>.inr (q.elim .inl fun q=>.inr (.inl q)))))
@[go_sem]def c175:CF:=⟨5,(Sq [b 10 0] (Qq (.block 0 (Sq [a 12 0,q 13 34 12,qe 14 13,a 11 14] (Kq 11 [b 10 2] (Sq [a 16 1,K 17 3 16 0,a 18 17,s 19 18 1,s 20 18 3,qw 21 18 3 19 20,r 22 18 21,a 15 22] (Kq 15 [b 10 3] (Sq [a 24 2,K 25 3 24 0,a 26 25,s 27 26 2,qn 28 26 3 27 64,r 29 26 28,a 23 29] (Kq 23 [b 10 2] (Sq [a 31 4,a 30 31] (Kq 30 [b 10 8] .skip))))))))) (Rq [b 10 0]))),[.tmp 10]⟩
@[go_sem]def c97:CF:=⟨4,(Sq [p 8,b 9 0] (Qq (Sq [a 12 0,u 13 210 12] (Kq 13 [p 8,b 9 1] .skip)) (Sq [a 14 2,qC 15 3 14 0,a 16 15,B 17 16 2,B 18 16 0,qm 19 16 18,W 20 16 2 19,Y 21 16 20,ql 22 16 21,qS 23 16 3 17 22,O 24 16 23,a 25 24,B 26 25 0,qm 27 25 26,W 28 25 2 27,Y 29 25 28,B 30 25 2,zG 31 25 3 29 30,W 32 25 1 31,Y 33 25 32,O 34 25 33,a 10 34] (Qq (Sq [a 35 1,a 36 2,a 37 3,a 38 0,m 39 38,d 40 2 39,i 41 40,A 42 41,a 43 10,jr 44 175 35 36 37 42 43,a 11 44] (Sq [a 45 11,z 46 54 45 0] (Kq 46 [a 47 11,p 8,a 9 47] .skip))) (Sq [a 48 0,m 49 48,d 50 2 49,i 51 50,a 52 2,E 53 3 51 52,d 54 1 53,qE 1 54] (Rq [a 55 0,a 56 1,a 57 2,⟨some 58,none,.p (.build [.nilp,.int .i64 0,.int .i64 0,.bool false] [(0,1,.t 55),(1,1,.t 56),(2,1,.t 57)])⟩,w 59 367 58,a 8 59,b 9 0])))))),[.tmp 8,.tmp 9]⟩
@[go_sem]def c98:CF:=⟨4,(Sq [p 8,b 9 0] (Qq (Sq [a 12 0,u 13 211 12] (Kq 13 [p 8,b 9 1] .skip)) (Sq [a 14 2,qC 15 3 14 0,a 16 15,B 17 16 2,B 18 16 0,qm 19 16 18,W 20 16 2 19,Y 21 16 20,ql 22 16 21,qS 23 16 3 17 22,O 24 16 23,a 25 24,B 26 25 0,qm 27 25 26,W 28 25 2 27,Y 29 25 28,B 30 25 2,zG 31 25 3 29 30,W 32 25 1 31,Y 33 25 32,O 34 25 33,a 10 34] (Qq (Sq [a 35 1,a 36 2,a 37 3,a 38 0,m 39 38,d 40 2 39,i 41 40,A 42 41,a 43 10,jr 44 175 35 36 37 42 43,a 11 44] (Sq [a 45 11,z 46 54 45 0] (Kq 46 [a 47 11,p 8,a 9 47] .skip))) (Sq [a 48 0,m 49 48,d 50 2 49,i 51 50,a 52 2,E 53 3 51 52,d 54 1 53,qE 1 54] (Rq [a 55 0,a 56 1,a 57 2,a 58 3,⟨some 59,none,.p (.build [.nilp,iz,iz,iz,bz] [(0,1,.t 55),(1,1,.t 56),(2,1,.t 57),(3,1,.t 58),(4,1,.c (.int .u8 14))])⟩,w 60 370 59,a 8 60,b 9 0])))))),[.tmp 8,.tmp 9]⟩
@[go_sem]def c182:CF:=⟨3,(Sq [a 6 0,m 7 6,d 8 2 7,i 9 8,a 10 2,E 11 3 9 10,d 12 0 11,i 13 12,zl 14 51 13 1,E 15 3 9 10,d 16 0 15,t 1 16 14] (.drw ⟨[([g 0 0,n 1 17 0,j 2 18 1 0,k 3 19 2,g 4 1,g 5 0,n 6 22 5,j 7 23 6 1,k 8 24 7,g 9 2,qz 10 25 8 26 9 3,g 11 0,n 12 28 11,j 13 29 12 2,k 14 30 13,g 15 2,Q 16 31 14 32 15 3,j 17 33 16 0,k 18 34 17],some (qp 19 20 3 21 4 27 10 35 18 26)),([],none)],[(0,17),(1,18),(2,19),(3,20),(4,21),(5,22),(6,23),(7,24),(8,25),(9,26),(10,27),(11,28),(12,29),(13,30),(14,31),(15,32),(16,33),(17,34),(18,35),(19,36)],[]⟩)),[]⟩
@[go_sem]def c183:CF:=⟨3,(Sq [a 6 0,m 7 6,d 8 2 7,i 9 8,a 10 2,E 11 3 9 10,d 12 0 11,i 13 12,zl 14 51 13 1,E 15 3 9 10,d 16 0 15,t 1 16 14] (.drw ⟨[([g 0 0,n 1 17 0,j 2 18 1 0,k 3 19 2,g 4 1,g 5 0,n 6 22 5,j 7 23 6 1,k 8 24 7,g 9 2,js 10 26 9 3 2,qz 11 25 8 27 10 3,g 12 0,n 13 29 12,j 14 30 13 2,k 15 31 14,g 16 2,Q 17 32 15 33 16 3,j 18 34 17 0,k 19 35 18],some (qp 20 20 3 21 4 28 11 36 19 26)),([],none)],[(0,17),(1,18),(2,19),(3,20),(4,21),(5,22),(6,23),(7,24),(8,25),(9,26),(10,27),(11,28),(12,29),(13,30),(14,31),(15,32),(16,33),(17,34),(18,35),(19,36),(20,37)],[]⟩)),[]⟩
@[go_sem]def c176:CF:=⟨1,(Sq [v 2 0] (Qq (Sq [a 3 0,u 4 215 3,a 5 4,s 6 5 0,qi 7 5 6,M 8 5 3 7,L 9 5 8,r 10 5 9] (Kq 10 [v 2 0] .skip)) (Rq [v 2 13]))),[.tmp 2]⟩
@[go_sem]def c177:CF:=⟨1,(Sq [v 2 0] (Qq (Sq [a 3 0,u 4 216 3] (Kq 4 [v 2 0] .skip)) (Rq [a 5 0,m 6 5,d 7 4 6,i 8 7,a 2 8]))),[.tmp 2]⟩
@[go_sem]def c102:CF:=⟨1,(Sq [v 2 0,G 3] (Sq [a 5 0,q 6 176 5,a 4 6] (Qq (Sq [a 7 4,J 8 5 7 0] (Kq 8 [a 9 4,a 2 9,G 3] .skip)) (Qq (.drw ⟨[([g 0 0,n 1 10 0,j 2 11 1 0,k 3 12 2,g 4 0,n 5 14 4,j 6 15 5 1,k 7 16 6,g 8 0,n 9 18 8,j 10 19 9 2,k 11 20 10],some (qL 12 13 3 17 7 21 11 182)),([],none)],[(0,10),(1,11),(2,12),(3,13),(4,14),(5,15),(6,16),(7,17),(8,18),(9,19),(10,20),(11,21),(12,22)],[]⟩) (Qq (.drw ⟨[([g 0 0,n 1 23 0,j 2 24 1 0,k 3 25 2,n 4 26 3,j 5 27 4 2,k 6 28 5,g 7 0,n 8 30 7,j 9 31 8 2,k 10 32 9,g 11 0,Q 12 29 6 33 10 3,j 13 35 12 2],some (zO 14 36 13 1)),([n 15 34 11,j 16 37 15 3],some (zO 17 38 16 1)),([],none)],[(0,23),(1,24),(2,25),(3,26),(4,27),(5,28),(6,29),(7,30),(8,31),(9,32),(10,33),(11,34),(12,35),(13,36),(15,37),(16,38)],[]⟩) (Rq [a 39 4,a 2 39,qx 3])))))),[.tmp 2,.tmp 3]⟩
@[go_sem]def c103:CF:=⟨1,(Sq [v 2 0,G 3] (Sq [a 5 0,q 6 177 5,a 4 6] (Qq (Sq [a 7 4] (.block 0 (Sq [J 9 5 7 14,a 8 9] (Cq 8 (Qq (.drw ⟨[([g 0 0,n 1 10 0,j 2 11 1 0,k 3 12 2,n 4 13 3,j 5 14 4 0,k 6 15 5,g 7 0,n 8 17 7,j 9 18 8 1,k 10 19 9,g 11 0,n 12 21 11,j 13 22 12 0,k 14 23 13,n 15 24 14,j 16 25 15 1,k 17 26 16,g 18 0,n 19 28 18,j 20 29 19 2,k 21 30 20,js 22 31 21 3 2,qz 23 27 17 32 22 3,qY 24 33 23 3 1,g 25 0,n 26 35 25,j 27 36 26 3,k 28 37 27,zc 29 38 28],some (qp 30 16 6 20 10 34 24 39 29 26)),([],none)],[(0,10),(1,11),(2,12),(3,13),(4,14),(5,15),(6,16),(7,17),(8,18),(9,19),(10,20),(11,21),(12,22),(13,23),(14,24),(15,25),(16,26),(17,27),(18,28),(19,29),(20,30),(21,31),(22,32),(23,33),(24,34),(25,35),(26,36),(27,37),(28,38),(29,39),(30,40)],[]⟩) (Oq [a 41 0,m 42 41,d 43 4 42,zp 1 43 13])) (Sq [J 45 5 7 13,a 44 45] (Cq 44 (Qq (.drw ⟨[([g 0 0,n 1 46 0,j 2 47 1 0,k 3 48 2,g 4 0,n 5 50 4,j 6 51 5 1,k 7 52 6,g 8 0,n 9 54 8,j 10 55 9 2,k 11 56 10],some (qL 12 49 3 53 7 57 11 183)),([],none)],[(0,46),(1,47),(2,48),(3,49),(4,50),(5,51),(6,52),(7,53),(8,54),(9,55),(10,56),(11,57),(12,58)],[]⟩) (Qq (.drw ⟨[([g 0 0,n 1 59 0,j 2 60 1 0,k 3 61 2,n 4 62 3,j 5 63 4 2,k 6 64 5,g 7 0,n 8 66 7,j 9 67 8 2,k 10 68 9,Q 11 65 6 69 10 3,j 12 70 11 2],some (zO 13 71 12 1)),([],none)],[(0,59),(1,60),(2,61),(3,62),(4,63),(5,64),(6,65),(7,66),(8,67),(9,68),(10,69),(11,70),(12,71)],[]⟩) (Oq [a 72 0,m 73 72,d 74 4 73,zp 1 74 0]))) .skip)))))) (Rq [a 75 4,a 76 4,J 77 5 76 13,a 2 75,a 3 77])))),[.tmp 2,.tmp 3]⟩
def triC(l:List (Int×Bool×Bool)):List AV:=l.flatMap fun p=>[.int .u64 p.1,.bool p.2.1,.bool p.2.2]
theorem triC_len:∀l,(triC l).length=l.length*3
 | []=>rfl
 |p::l=>by
  have:=triC_len l
  show(AV.int .u64 p.1::AV.bool p.2.1::AV.bool p.2.2::triC l).length=_
  rw[List.length_cons,List.length_cons,List.length_cons,this,List.length_cons]
  omega
theorem triC_get:∀(l:List (Int×Bool×Bool)) (s:Nat) (x:Int) (b c:Bool),l[s]?=some (x,b,c)->(triC l)[s*3]?=some (.int .u64 x)∧(triC l)[s*3+1]?=some (.bool b)∧(triC l)[s*3+2]?=some (.bool c)
 | [],s,x,b,c,h=>by simp at h
 |p::l,0,x,b,c,h=>by
  simp only[List.getElem?_cons_zero,Option.some.injEq]at h
  subst h
  exact⟨rfl,rfl,rfl⟩
 |p::l,s+1,x,b,c,h=>by
  have:=triC_get l s x b c (by simpa using h)
  rw[Nat.add_mul]
  exact this
theorem triC_set:∀(l:List (Int×Bool×Bool)) (s:Nat) (x:Int) (b c:Bool),l[s]?=some (x,b,c)->(∀z,(triC l).set (s*3) (.int .u64 z)=triC (l.set s (z,b,c)))∧(∀z,(triC l).set (s*3+1) (.bool z)=triC (l.set s (x,z,c)))∧∀z,(triC l).set (s*3+2) (.bool z)=triC (l.set s (x,b,z))
 | [],s,x,b,c,h=>by simp at h
 |p::l,0,x,b,c,h=>by
  simp only[List.getElem?_cons_zero,Option.some.injEq]at h
  subst h
  exact⟨fun z=>rfl,fun z=>rfl,fun z=>rfl⟩
 |p::l,s+1,x,b,c,h=>by
  have:=triC_set l s x b c (by simpa using h)
  rw[Nat.add_mul]
  exact⟨fun z=>congrArg (fun q=>AV.int .u64 p.1::AV.bool p.2.1::AV.bool p.2.2::q) (this.1 z),fun z=>congrArg (fun q=>AV.int .u64 p.1::AV.bool p.2.1::AV.bool p.2.2::q) (this.2.1 z),fun z=>congrArg (fun q=>AV.int .u64 p.1::AV.bool p.2.1::AV.bool p.2.2::q) (this.2.2 z)⟩
structure TriE(h:H)(M n bs G N:Nat)(ty:TypeId)(sl:List (Int×Bool×Bool)):Prop where
 gG:h.t.get G=some (rowL [.ptr M 0,.int .i64 (bs:Int),.sl N 0 n 3 (some n)] ty)
 gN:h.t.get N=some (.row (putList 0 (triC sl) T.e) (n*3) 364)
 ln:sl.length=n
 lG:G<h.next
 lN:N<h.next
theorem TriE.keep{h h':H}{M n bs G N:Nat}{ty:TypeId}{sl:List (Int×Bool×Bool)}(m:TriE h M n bs G N ty sl)(hn:h.next<=h'.next)(k:∀b,b=G∨b=N->h'.t.get b=h.t.get b):TriE h' M n bs G N ty sl:=
 ⟨(k G (.inl rfl)).trans m.gG,(k N (.inr rfl)).trans m.gN,m.ln,Nat.lt_of_lt_of_le m.lG hn,Nat.lt_of_lt_of_le m.lN hn⟩
def tZ(nu:List Int):List (Int×Bool×Bool):=nu.map fun x=>(x,decide (x=1),decide (x=1))
theorem tZ_get{nu:List Int}{s:Nat}{x:Int}(h:nu[s]?=some x):(tZ nu)[s]?=some (x,decide (x=1),decide (x=1)):=by unfold tZ;rw[List.getElem?_map,h];rfl
theorem tZ_set(nu:List Int)(s:Nat):(tZ nu).set s (1,true,true)=tZ (nu.set s 1):=by unfold tZ;rw[List.map_set];rfl
theorem w175(P:Program){call:CallE}(h34:F34 call){h:H}{t s n:Int}{b:Bool}(t0:0<=t)(t1:t<64)(s0:0<=s)(s1:s<n):WF P call c175 [.int .i64 t,.int .i64 s,.int .i64 0,.int .i64 n,.bool b] h fun v h'=>v=.int .i64 (if b then 8 else 0)∧h'=h:=by
 have k:=h34 h t
 have e:0<=t∧t<64:=⟨t0,t1⟩
 have e1:¬s<0:=by omega
 have e2:¬n<=s:=by omega
 cases b with
 |true=>simp only[go_sem,seval,k,e,e1,e2,s1]
 |false=>simp only[go_sem,seval,k,e,e1,e2,s1]
def F175(call:CallE):Prop:=∀h (t s n:Int) (b:Bool),0<=t->t<64->0<=s->s<n->call 175 [.int .i64 t,.int .i64 s,.int .i64 0,.int .i64 n,.bool b] h=some (.int .i64 (if b then 8 else 0),h)
def xT(G:Nat)(t:Int)(s:Nat)(b:Bool):AO:=rowL [.ptr G 0,.int .i64 t,.int .i64 (s:Int),.bool b] 367
def xU(G:Nat)(t:Int)(s:Nat)(pc:Int):AO:=rowL [.ptr G 0,.int .i64 t,.int .i64 (s:Int),.int .i64 0,.int .u8 pc] 370
def PostET(M n bs G N:Nat)(ty:TypeId)(xo:AO)(nu:List Int)(s:Nat)(x t:Int)(h:H)(v:AV)(h':H):Prop:=
 (x=1∧v=.tup [.nilp,.int .i64 8]∧h'=h)∨(x=0∧∃X,v=.tup [.ptr X 0,.int .i64 0]∧h.next<=X∧X<h'.next∧h'.t.get X=some xo∧TriE h' M n bs G N ty ((tZ nu).set s (0,true,false))∧Tch (fun b=>b=N) h h')
theorem w97(h175:F175 call){h:H}{M n bs G N:Nat}{nu:List Int}(m:TriE h M n bs G N 362 (tZ nu)){t:Int}(t0:0<=t)(t1:t<64){s:Nat}{x:Int}(hx:nu[s]?=some x)(x1:x=0∨x=1):
 WF P call c97 [.ptr G 0,.int .i64 t,.int .i64 (s:Int),.int .i64 0] h (PostET M n bs G N 362 (xT G t s false) nu s x t h):=by
 have gG:=m.gG
 have gN:=m.gN
 have hx0:=tZ_get hx
 have hs:s<n:=by rw[←m.ln];exact(List.getElem?_eq_some_iff.1 hx0).1
 have hcl:(triC (tZ nu)).length=n*3:=by rw[triC_len,m.ln]
 have hs1:s*3+1<(triC (tZ nu)).length:=by omega
 have hs2:s*3+1+1<=n*3:=by omega
 have hs3:s*3+1<n*3:=by omega
 obtain⟨g0,g1,g2⟩:=triC_get _ s x _ _ hx0
 have hst:=(triC_set _ s x _ _ hx0).2.1
 have e0:(0:Int)<=(s:Int):=by omega
 have e3:¬(s:Int)<0:=by omega
 have e1:(s:Int)<(n:Int):=by omega
 have k0:call 175 [.int .i64 t,.int .i64 (s:Int),.int .i64 0,.int .i64 (n:Int),.bool false] h=some (.int .i64 0,h):=h175 h t s n false t0 t1 e0 e1
 have k8:call 175 [.int .i64 t,.int .i64 (s:Int),.int .i64 0,.int .i64 (n:Int),.bool true] h=some (.int .i64 8,h):=h175 h t s n true t0 t1 e0 e1
 have GN:¬G=N:=rowL_ne gG gN (by decide)
 have lG:=m.lG
 have lN:=m.lN
 rcases x1 with rfl|rfl
 ·simp only[go_sem,seval,gG,e0,e3,e1,gN,g1,hcl,hs1,hs2,hs3,hst,k0]
  have n1:¬G=h.next:=by omega
  have n2:¬N=h.next:=by omega
  refine .inr ⟨rfl,h.next,rfl,Nat.le_refl _,Nat.lt_succ_self _,by simp only[go_sem,seval];rfl,⟨by simp only[go_sem,seval,n1,GN];exact gG,by simp[go_sem,n2],by rw[List.length_set];exact m.ln,Nat.lt_succ_of_lt lG,Nat.lt_succ_of_lt lN⟩,⟨Nat.le_succ _,fun b hb hn=>?_⟩⟩
  have n4:¬b=h.next:=by omega
  simp only[go_sem,seval,n4,hn]
 ·simp only[go_sem,seval,gG,e0,e3,e1,gN,g1,hcl,k8]
  exact .inl ⟨rfl,rfl,rfl⟩
theorem w98(h175:F175 call){h:H}{M n bs G N:Nat}{nu:List Int}(m:TriE h M n bs G N 368 (tZ nu)){t:Int}(t0:0<=t)(t1:t<64){s:Nat}{x:Int}(hx:nu[s]?=some x)(x1:x=0∨x=1):
 WF P call c98 [.ptr G 0,.int .i64 t,.int .i64 (s:Int),.int .i64 0] h (PostET M n bs G N 368 (xU G t s 14) nu s x t h):=by
 have gG:=m.gG
 have gN:=m.gN
 have hx0:=tZ_get hx
 have hs:s<n:=by rw[←m.ln];exact(List.getElem?_eq_some_iff.1 hx0).1
 have hcl:(triC (tZ nu)).length=n*3:=by rw[triC_len,m.ln]
 have hs1:s*3+1<(triC (tZ nu)).length:=by omega
 have hs2:s*3+1+1<=n*3:=by omega
 have hs3:s*3+1<n*3:=by omega
 obtain⟨g0,g1,g2⟩:=triC_get _ s x _ _ hx0
 have hst:=(triC_set _ s x _ _ hx0).2.1
 have e0:(0:Int)<=(s:Int):=by omega
 have e3:¬(s:Int)<0:=by omega
 have e1:(s:Int)<(n:Int):=by omega
 have k0:call 175 [.int .i64 t,.int .i64 (s:Int),.int .i64 0,.int .i64 (n:Int),.bool false] h=some (.int .i64 0,h):=h175 h t s n false t0 t1 e0 e1
 have k8:call 175 [.int .i64 t,.int .i64 (s:Int),.int .i64 0,.int .i64 (n:Int),.bool true] h=some (.int .i64 8,h):=h175 h t s n true t0 t1 e0 e1
 have GN:¬G=N:=rowL_ne gG gN (by decide)
 have lG:=m.lG
 have lN:=m.lN
 rcases x1 with rfl|rfl
 ·simp only[go_sem,seval,gG,e0,e3,e1,gN,g1,hcl,hs1,hs2,hs3,hst,k0]
  have n1:¬G=h.next:=by omega
  have n2:¬N=h.next:=by omega
  refine .inr ⟨rfl,h.next,rfl,Nat.le_refl _,Nat.lt_succ_self _,by simp only[go_sem,seval];rfl,⟨by simp only[go_sem,seval,n1,GN];exact gG,by simp[go_sem,n2],by rw[List.length_set];exact m.ln,Nat.lt_succ_of_lt lG,Nat.lt_succ_of_lt lN⟩,⟨Nat.le_succ _,fun b hb hn=>?_⟩⟩
  have n4:¬b=h.next:=by omega
  simp only[go_sem,seval,n4,hn]
 ·simp only[go_sem,seval,gG,e0,e3,e1,gN,g1,hcl,k8]
  exact .inl ⟨rfl,rfl,rfl⟩
theorem RMemL.off{h:H}{M W:Nat}{lv:AV}{ws:List Int}{l:List AccT}(m:RMemL h M W lv ws l){b:Nat}(hb:∀c n e,h.t.get b=some (.row c n e)->e≠154∧e≠51∧e≠296):¬memS M W lv b:=fun hS=>by
 rcases hS with rfl|rfl|e
 ·exact(hb _ _ _ m.g).1 rfl
 ·exact(hb _ _ _ m.w).2.1 rfl
 ·obtain⟨c,n,g⟩:=own_row m.l e
  exact(hb _ _ _ g).2.2 rfl
theorem offQ{h:H}{b:Nat}{c0:T AV}{n0:Nat}{e0:TypeId}(g:h.t.get b=some (.row c0 n0 e0))(h1:e0≠154)(h2:e0≠51)(h3:e0≠296):∀c n e,h.t.get b=some (.row c n e)->e≠154∧e≠51∧e≠296:=fun c n e g'=>by
 rw[g]at g'
 simp at g'
 obtain⟨_,_,rfl⟩:=g'
 exact⟨h1,h2,h3⟩
def PostRS(M W n bs G N:Nat)(ty:TypeId)(sl:List (Int×Bool×Bool))(lv:AV)(ws:List Int)(l:List AccT)(t:Int)(i s:Nat)(y:Int)(b c:Bool)(h h':H):Prop:=
 ∃lv',RMemL h' M W lv' (ws.set i 1) (l++[⟨t,(i:Int),2,y,1,false⟩])∧TriE h' M n bs G N ty (sl.set s (1,b,c))∧(∀b,own lv'=some b->h.next<=b)∧Tch (fun b=>memS M W lv b∨b=N) h h'
theorem w182(h26:F26 call){h:H}{M W n bs G N:Nat}{sl:List (Int×Bool×Bool)}{lv:AV}{ws:List Int}{l:List AccT}(m:TriE h M n bs G N 362 sl)(mm:RMemL h M W lv ws l)(hl:l.length<=1000000)(hb:bs+n*2<=5000)(hn64:n<=64)
 {t:Int} (t0:0<=t) (t1:t<64) {s:Nat} {y:Int} {b c:Bool} (hx:sl[s]?=some (0,b,c)) (hy:ws[bs+s]?=some y):
 WF P call c182 [.ptr G 0,.int .i64 t,.int .i64 (s:Int)] h fun v h'=>v=.tup []∧PostRS M W n bs G N 362 sl lv ws l t (bs+s) s y b c h h':=by
 have gG:=m.gG
 have gN:=m.gN
 have hd:∀b,b=G∨b=N->¬memS M W lv b:=fun b hb=>mm.off (hb.elim (fun q=>q▸offQ gG (by decide) (by decide) (by decide)) fun q=>q▸offQ gN (by decide) (by decide) (by decide))
 have hs:s<n:=by rw[←m.ln];exact(List.getElem?_eq_some_iff.1 hx).1
 have hcl:(triC sl).length=n*3:=by rw[triC_len,m.ln]
 have hs1:s*3<(triC sl).length:=by omega
 have e2:(s:Int)<(n:Int):=by omega
 obtain⟨hx1,-,-⟩:=triC_get sl s 0 b c hx
 obtain⟨hst,-,-⟩:=triC_set sl s 0 b c hx
 have GN:¬G=N:=rowL_ne gG gN (by decide)
 have f1:fw .u64 1=1:=rfl
 have f2:fw .i64 ((bs:Int)+(s:Int))=((bs+s:Nat):Int):=by rw[fwI (by omega) (by omega)];omega
 have hs2:s*3+1<=n*3:=by omega
 have hs3:s*3<n*3:=by omega
 have st0:Tch (fun b=>memS M W lv b∨b=N) h ⟨h.next,h.t.set N (.row (putList 0 (triC (sl.set s (1,b,c))) T.e) (n*3) 364)⟩:=⟨Nat.le_refl _,fun b hb hn=>by
  have e0:¬b=N:=fun e=>hn (.inr e)
  simp only[go_sem,seval,e0]⟩
 have mm1:RMemL ⟨h.next,h.t.set N (.row (putList 0 (triC (sl.set s (1,b,c))) T.e) (n*3) 364)⟩ M W lv ws l:=mm.keep (Nat.le_refl _) fun b hb hS=>by
  have e0:¬b=N:=fun e=>hd N (.inr rfl) (e▸hS)
  simp only[go_sem,seval,e0]
 have g1:=(triC_get (sl.set s (1,b,c)) s 1 b c (by rw[List.getElem?_set_self (by rw[m.ln];exact hs)])).1
 simp only[go_sem,seval,gG,e2,gN,hx1,hcl,hs1,hs2,hs3,f1,f2,GN,hst,g1]
 refine opt_by (h26 _ M W lv ws l t (bs+s) y 1 mm1 hl t0 t1 hy) fun v1 h1 p1=>?_
 obtain⟨rfl,lv',m1,lo1,st1⟩:=p1
 have nx:h.next<=h1.next:=st1.next
 simp only[go_sem,seval,nx,GN,gG,g1]
 have kp:∀z,(z=G∨z=N)->z<h.next->h1.t.get z=(h.t.set N (.row (putList 0 (triC (sl.set s (1,b,c))) T.e) (n*3) 364)).get z:=fun z hb lb=>st1.old z lb (hd z hb)
 have k1:=kp G (.inl rfl) m.lG
 have k2:=kp N (.inr rfl) m.lN
 simp only[go_sem,seval,GN]at k1
 simp only[go_sem,seval]at k2
 refine⟨lv',m1,⟨k1.trans gG,k2,by rw[List.length_set];exact m.ln,Nat.lt_of_lt_of_le m.lG nx,Nat.lt_of_lt_of_le m.lN nx⟩,lo1,nx,fun b hb hn=>?_⟩
 exact(st1.old b hb fun e=>hn (.inl e)).trans (st0.old b hb hn)
def F182(call:CallE):Prop:=∀h M W n bs G N sl lv ws l (t:Int) (s:Nat) (y:Int) b c,TriE h M n bs G N 362 sl->RMemL h M W lv ws l->l.length<=1000000->bs+n*2<=5000->n<=64->0<=t->t<64->sl[s]?=some (0,b,c)->ws[bs+s]?=some y->Does call 182 [.ptr G 0,.int .i64 t,.int .i64 (s:Int)] h fun v h'=>v=.tup []∧PostRS M W n bs G N 362 sl lv ws l t (bs+s) s y b c h h'
theorem w183(h26:F26 call){h:H}{M W n bs G N:Nat}{sl:List (Int×Bool×Bool)}{lv:AV}{ws:List Int}{l:List AccT}(m:TriE h M n bs G N 368 sl)(mm:RMemL h M W lv ws l)(hl:l.length<=1000000)(hb:bs+n*2<=5000)(hn64:n<=64)
 {t:Int} (t0:0<=t) (t1:t<64) {s:Nat} {y:Int} {b c:Bool} (hx:sl[s]?=some (0,b,c)) (hy:ws[bs+2*s]?=some y):
 WF P call c183 [.ptr G 0,.int .i64 t,.int .i64 (s:Int)] h fun v h'=>v=.tup []∧PostRS M W n bs G N 368 sl lv ws l t (bs+2*s) s y b c h h':=by
 have gG:=m.gG
 have gN:=m.gN
 have hd:∀b,b=G∨b=N->¬memS M W lv b:=fun b hb=>mm.off (hb.elim (fun q=>q▸offQ gG (by decide) (by decide) (by decide)) fun q=>q▸offQ gN (by decide) (by decide) (by decide))
 have hs:s<n:=by rw[←m.ln];exact(List.getElem?_eq_some_iff.1 hx).1
 have hcl:(triC sl).length=n*3:=by rw[triC_len,m.ln]
 have hs1:s*3<(triC sl).length:=by omega
 have e2:(s:Int)<(n:Int):=by omega
 obtain⟨hx1,-,-⟩:=triC_get sl s 0 b c hx
 obtain⟨hst,-,-⟩:=triC_set sl s 0 b c hx
 have GN:¬G=N:=rowL_ne gG gN (by decide)
 have f1:fw .u64 1=1:=rfl
 have f3:fw .i64 (2*(s:Int))=2*(s:Int):=fwI (by omega) (by omega)
 have f2:fw .i64 ((bs:Int)+2*(s:Int))=((bs+2*s:Nat):Int):=by rw[fwI (by omega) (by omega)];omega
 have hs2:s*3+1<=n*3:=by omega
 have hs3:s*3<n*3:=by omega
 have st0:Tch (fun b=>memS M W lv b∨b=N) h ⟨h.next,h.t.set N (.row (putList 0 (triC (sl.set s (1,b,c))) T.e) (n*3) 364)⟩:=⟨Nat.le_refl _,fun b hb hn=>by
  have e0:¬b=N:=fun e=>hn (.inr e)
  simp only[go_sem,seval,e0]⟩
 have mm1:RMemL ⟨h.next,h.t.set N (.row (putList 0 (triC (sl.set s (1,b,c))) T.e) (n*3) 364)⟩ M W lv ws l:=mm.keep (Nat.le_refl _) fun b hb hS=>by
  have e0:¬b=N:=fun e=>hd N (.inr rfl) (e▸hS)
  simp only[go_sem,seval,e0]
 have g1:=(triC_get (sl.set s (1,b,c)) s 1 b c (by rw[List.getElem?_set_self (by rw[m.ln];exact hs)])).1
 simp only[go_sem,seval,gG,e2,gN,hx1,hcl,hs1,hs2,hs3,f1,f2,f3,GN,hst,g1]
 refine opt_by (h26 _ M W lv ws l t (bs+2*s) y 1 mm1 hl t0 t1 hy) fun v1 h1 p1=>?_
 obtain⟨rfl,lv',m1,lo1,st1⟩:=p1
 have nx:h.next<=h1.next:=st1.next
 simp only[go_sem,seval,nx,GN,gG,g1]
 have kp:∀z,(z=G∨z=N)->z<h.next->h1.t.get z=(h.t.set N (.row (putList 0 (triC (sl.set s (1,b,c))) T.e) (n*3) 364)).get z:=fun z hb lb=>st1.old z lb (hd z hb)
 have k1:=kp G (.inl rfl) m.lG
 have k2:=kp N (.inr rfl) m.lN
 simp only[go_sem,seval,GN]at k1
 simp only[go_sem,seval]at k2
 refine⟨lv',m1,⟨k1.trans gG,k2,by rw[List.length_set];exact m.ln,Nat.lt_of_lt_of_le m.lG nx,Nat.lt_of_lt_of_le m.lN nx⟩,lo1,nx,fun b hb hn=>?_⟩
 exact(st1.old b hb fun e=>hn (.inl e)).trans (st0.old b hb hn)
def F183(call:CallE):Prop:=∀h M W n bs G N sl lv ws l (t:Int) (s:Nat) (y:Int) b c,TriE h M n bs G N 368 sl->RMemL h M W lv ws l->l.length<=1000000->bs+n*2<=5000->n<=64->0<=t->t<64->sl[s]?=some (0,b,c)->ws[bs+2*s]?=some y->Does call 183 [.ptr G 0,.int .i64 t,.int .i64 (s:Int)] h fun v h'=>v=.tup []∧PostRS M W n bs G N 368 sl lv ws l t (bs+2*s) s y b c h h'
theorem w176{h:H}{X:Nat}{a b c:AV}{d:Bool}(gX:h.t.get X=some (rowL [a,b,c,.bool d] 367)):WF P call c176 [.ptr X 0] h fun v h'=>v=.int .u8 (if d then 0 else 13)∧h'=h:=by
 cases d with
 |true=>simp only[go_sem,seval,gX]
 |false=>simp only[go_sem,seval,gX]
theorem w177{h:H}{X:Nat}{a b c d:AV}{pc:Int}(gX:h.t.get X=some (rowL [a,b,c,d,.int .u8 pc] 370)):WF P call c177 [.ptr X 0] h fun v h'=>v=.int .u8 pc∧h'=h:=by
 simp only[go_sem,seval,gX]
def F176(call:CallE):Prop:=∀h X a b c d,h.t.get X=some (rowL [a,b,c,.bool d] 367)->call 176 [.ptr X 0] h=some (.int .u8 (if d then 0 else 13),h)
def F177(call:CallE):Prop:=∀h X a b c d (pc:Int),h.t.get X=some (rowL [a,b,c,d,.int .u8 pc] 370)->call 177 [.ptr X 0] h=some (.int .u8 pc,h)
def PostRT(M W n bs G N X:Nat)(ty:TypeId)(xo:AO)(sl:List (Int×Bool×Bool))(lv:AV)(ws:List Int)(l:List AccT)(h h':H):Prop:=
 ∃lv',RMemL h' M W lv' ws l∧TriE h' M n bs G N ty sl∧h'.t.get X=some xo∧(∀b,own lv'=some b->h.next<=b)∧Tch (fun b=>memS M W lv b∨b=N∨b=X) h h'
theorem w102z(h176:F176 call){h:H}{X G:Nat}{t:Int}{s:Nat}(gX:h.t.get X=some (xT G t s true)):WF P call c102 [.ptr X 0] h fun v h'=>v=.tup [.int .u8 0,.bool false]∧h'=h:=by
 have k:=h176 h X _ _ _ true gX
 simp only[go_sem,seval,k]
theorem w103z(h177:F177 call){h:H}{X G:Nat}{t:Int}{s:Nat}(gX:h.t.get X=some (xU G t s 0)):WF P call c103 [.ptr X 0] h fun v h'=>v=.tup [.int .u8 0,.bool false]∧h'=h:=by
 have k:=h177 h X _ _ _ _ 0 gX
 simp only[go_sem,seval,k]
theorem w102(h176:F176 call)(h182:F182 call){h:H}{M W n bs G N X:Nat}{nu:List Int}{lv:AV}{ws:List Int}{l:List AccT}{t:Int}{s:Nat}(m:TriE h M n bs G N 362 ((tZ nu).set s (0,true,false)))(mm:RMemL h M W lv ws l)(hl:l.length<=1000000)(hb:bs+n*2<=5000)(hn64:n<=64)(hs:s<n)
 (gX:h.t.get X=some (xT G t s false)) (lX:X<h.next) (t0:0<=t) (t1:t<64) {y:Int} (hy:ws[bs+s]?=some y):
 WF P call c102 [.ptr X 0] h fun v h'=>v=.tup [.int .u8 13,.bool true]∧PostRT M W n bs G N X 362 (xT G t s true) (tZ (nu.set s 1)) lv (ws.set (bs+s) 1) (l++[⟨t,((bs+s:Nat):Int),2,y,1,false⟩]) h h':=by
 have gN:=m.gN
 have gG:=m.gG
 have ln:=m.ln
 rw[List.length_set]at ln
 have k:=h176 h X _ _ _ false gX
 have hx:((tZ nu).set s (0,true,false))[s]?=some (0,true,false):=by rw[List.getElem?_set_self (by omega)]
 have e2:(s:Int)<(n:Int):=by omega
 have dX:=mm.off (offQ (by exact gX) (by decide) (by decide) (by decide))
 have XN:¬X=N:=rowL_ne (by exact gX) gN (by decide)
 have XG:¬X=G:=rowL_ne (by exact gX) gG (by decide)
 have NX:¬N=X:=fun e=>XN e.symm
 have GX:¬G=X:=fun e=>XG e.symm
 have GN:¬G=N:=rowL_ne gG gN (by decide)
 have gX0:=gX
 unfold xT at gX0
 simp only[go_sem,seval,k,gX0]
 refine opt_by (h182 h M W n bs G N _ lv ws l t s y true false m mm hl hb hn64 t0 t1 hx hy) fun v1 h1 p1=>?_
 obtain⟨rfl,lv',m1,f1,lo1,st1⟩:=p1
 rw[List.set_set]at f1
 have gX1:=(st1.old X lX fun e=>e.elim dX XN).trans gX0
 have gG1:=f1.gG
 have gN1:=f1.gN
 have hx1:((tZ nu).set s (1,true,false))[s]?=some (1,true,false):=by rw[List.getElem?_set_self (by omega)]
 have hcl:(triC ((tZ nu).set s (1,true,false))).length=n*3:=by rw[triC_len,List.length_set,ln]
 have hs1:s*3+2<(triC ((tZ nu).set s (1,true,false))).length:=by omega
 have hs2:s*3+2+1<=n*3:=by omega
 have hs3:s*3+2<n*3:=by omega
 have hst:=(triC_set _ s 1 true false hx1).2.2 true
 rw[List.set_set,tZ_set]at hst
 have nx1:=st1.next
 have dlv:∀b,b=N∨b=X->¬memS M W lv' b:=fun b hb=>m1.off (hb.elim (fun q=>q▸offQ gN1 (by decide) (by decide) (by decide)) fun q=>q▸offQ gX1 (by decide) (by decide) (by decide))
 simp only[go_sem,seval,gX1,gG1,e2,gN1,hcl,hs1,hs2,hs3,hst,nx1,XN,NX]
 refine⟨lv',m1.keep (Nat.le_refl _) fun b hb hS=>?_,⟨by simp only[go_sem,seval,GX,GN];exact gG1,by simp[go_sem,NX],by unfold tZ at ln⊢;rw[List.length_map,List.length_set,←ln,List.length_map],f1.lG,f1.lN⟩,?_,lo1,nx1,fun b hb hn=>?_⟩
 ·have q1:¬b=N:=fun e=>dlv b (.inl e) hS
  have q2:¬b=X:=fun e=>dlv b (.inr e) hS
  simp only[go_sem,seval,q1,q2]
 ·simp only[go_sem,seval]
  rfl
 ·have q1:¬b=N:=fun e=>hn (.inr (.inl e))
  have q2:¬b=X:=fun e=>hn (.inr (.inr e))
  simp only[go_sem,seval,q1,q2]
  exact st1.old b hb fun q=>hn (q.elim .inl fun q=>.inr (.inl q))
theorem w103a(h177:F177 call)(h26:F26 call){h:H}{M W n bs G N X:Nat}{sl:List (Int×Bool×Bool)}{lv:AV}{ws:List Int}{l:List AccT}{t:Int}{s:Nat}(m:TriE h M n bs G N 368 sl)(mm:RMemL h M W lv ws l)(hl:l.length<=1000000)(hb:bs+n*2<=5000)(hn64:n<=64)(hs:s<n)
 (gX:h.t.get X=some (xU G t s 14)) (lX:X<h.next) (t0:0<=t) (t1:t<64) {y:Int} (hy:ws[bs+(2*s+1)]?=some y):
 WF P call c103 [.ptr X 0] h fun v h'=>v=.tup [.int .u8 14,.bool false]∧PostRT M W n bs G N X 368 (xU G t s 13) sl lv (ws.set (bs+(2*s+1)) 0) (l++[⟨t,((bs+(2*s+1):Nat):Int),2,y,0,false⟩]) h h':=by
 have gN:=m.gN
 have gG:=m.gG
 have k:=h177 h X _ _ _ _ 14 gX
 have dX:=mm.off (offQ (by exact gX) (by decide) (by decide) (by decide))
 have XN:¬X=N:=rowL_ne (by exact gX) gN (by decide)
 have XG:¬X=G:=rowL_ne (by exact gX) gG (by decide)
 have NX:¬N=X:=fun e=>XN e.symm
 have GX:¬G=X:=fun e=>XG e.symm
 have f1:fw .i64 (2*(s:Int))=2*(s:Int):=fwI (by omega) (by omega)
 have f2:fw .i64 ((bs:Int)+2*(s:Int))=(bs:Int)+2*(s:Int):=fwI (by omega) (by omega)
 have f3:fw .i64 ((bs:Int)+2*(s:Int)+1)=((bs+(2*s+1):Nat):Int):=by rw[fwI (by omega) (by omega)];omega
 have f0:fw .u64 0=0:=rfl
 have gX0:=gX
 unfold xU at gX0
 simp only[go_sem,seval,k,gX0,gG,f1,f2,f3,f0]
 refine opt_by (h26 h M W lv ws l t (bs+(2*s+1)) y 0 mm hl t0 t1 hy) fun v1 h1 p1=>?_
 obtain⟨rfl,lv',m1,lo1,st1⟩:=p1
 have nx1:=st1.next
 have gX1:=(st1.old X lX dX).trans gX0
 have f1':=m.keep nx1 fun b hb=>st1.old b (hb.elim (fun q=>q▸m.lG) fun q=>q▸m.lN) (mm.off (hb.elim (fun q=>q▸offQ gG (by decide) (by decide) (by decide)) fun q=>q▸offQ gN (by decide) (by decide) (by decide)))
 have gG1:=f1'.gG
 simp only[go_sem,seval,gX1,nx1,gG1]
 have dlv:¬memS M W lv' X:=m1.off (offQ gX1 (by decide) (by decide) (by decide))
 refine⟨lv',m1.keep (Nat.le_refl _) fun b hb hS=>?_,f1'.keep (Nat.le_refl _) fun b hb=>?_,?_,lo1,nx1,fun b hb hn=>?_⟩
 ·have q2:¬b=X:=fun e=>dlv (e▸hS)
  simp only[go_sem,seval,q2]
 ·have q2:¬b=X:=fun e=>hb.elim (fun q=>XG (e.symm.trans q)) fun q=>XN (e.symm.trans q)
  simp only[go_sem,seval,q2]
 ·simp only[go_sem,seval]
  rfl
 ·have q2:¬b=X:=fun e=>hn (.inr (.inr e))
  simp only[go_sem,seval,q2]
  exact st1.old b hb fun q=>hn (.inl q)
theorem w103b(h177:F177 call)(h183:F183 call){h:H}{M W n bs G N X:Nat}{nu:List Int}{lv:AV}{ws:List Int}{l:List AccT}{t:Int}{s:Nat}(m:TriE h M n bs G N 368 ((tZ nu).set s (0,true,false)))(mm:RMemL h M W lv ws l)(hl:l.length<=1000000)(hb:bs+n*2<=5000)(hn64:n<=64)(hs:s<n)
 (gX:h.t.get X=some (xU G t s 13)) (lX:X<h.next) (t0:0<=t) (t1:t<64) {y:Int} (hy:ws[bs+2*s]?=some y):
 WF P call c103 [.ptr X 0] h fun v h'=>v=.tup [.int .u8 13,.bool true]∧PostRT M W n bs G N X 368 (xU G t s 0) (tZ (nu.set s 1)) lv (ws.set (bs+2*s) 1) (l++[⟨t,((bs+2*s:Nat):Int),2,y,1,false⟩]) h h':=by
 have gN:=m.gN
 have gG:=m.gG
 have ln:=m.ln
 rw[List.length_set]at ln
 have k:=h177 h X _ _ _ _ 13 gX
 have hx:((tZ nu).set s (0,true,false))[s]?=some (0,true,false):=by rw[List.getElem?_set_self (by omega)]
 have e2:(s:Int)<(n:Int):=by omega
 have dX:=mm.off (offQ (by exact gX) (by decide) (by decide) (by decide))
 have XN:¬X=N:=rowL_ne (by exact gX) gN (by decide)
 have XG:¬X=G:=rowL_ne (by exact gX) gG (by decide)
 have NX:¬N=X:=fun e=>XN e.symm
 have GX:¬G=X:=fun e=>XG e.symm
 have GN:¬G=N:=rowL_ne gG gN (by decide)
 have gX0:=gX
 unfold xU at gX0
 simp only[go_sem,seval,k,gX0]
 refine opt_by (h183 h M W n bs G N _ lv ws l t s y true false m mm hl hb hn64 t0 t1 hx hy) fun v1 h1 p1=>?_
 obtain⟨rfl,lv',m1,f1,lo1,st1⟩:=p1
 rw[List.set_set]at f1
 have gX1:=(st1.old X lX fun e=>e.elim dX XN).trans gX0
 have gG1:=f1.gG
 have gN1:=f1.gN
 have hx1:((tZ nu).set s (1,true,false))[s]?=some (1,true,false):=by rw[List.getElem?_set_self (by omega)]
 have hcl:(triC ((tZ nu).set s (1,true,false))).length=n*3:=by rw[triC_len,List.length_set,ln]
 have hs1:s*3+2<(triC ((tZ nu).set s (1,true,false))).length:=by omega
 have hs2:s*3+2+1<=n*3:=by omega
 have hs3:s*3+2<n*3:=by omega
 have hst:=(triC_set _ s 1 true false hx1).2.2 true
 rw[List.set_set,tZ_set]at hst
 have nx1:=st1.next
 have dlv:∀b,b=N∨b=X->¬memS M W lv' b:=fun b hb=>m1.off (hb.elim (fun q=>q▸offQ gN1 (by decide) (by decide) (by decide)) fun q=>q▸offQ gX1 (by decide) (by decide) (by decide))
 simp only[go_sem,seval,gX1,gG1,e2,gN1,hcl,hs1,hs2,hs3,hst,nx1,XN,NX]
 refine⟨lv',m1.keep (Nat.le_refl _) fun b hb hS=>?_,⟨by simp only[go_sem,seval,GX,GN];exact gG1,by simp[go_sem,NX],by unfold tZ at ln⊢;rw[List.length_map,List.length_set,←ln,List.length_map],f1.lG,f1.lN⟩,?_,lo1,nx1,fun b hb hn=>?_⟩
 ·have q1:¬b=N:=fun e=>dlv b (.inl e) hS
  have q2:¬b=X:=fun e=>dlv b (.inr e) hS
  simp only[go_sem,seval,q1,q2]
 ·simp only[go_sem,seval]
  rfl
 ·have q1:¬b=N:=fun e=>hn (.inr (.inl e))
  have q2:¬b=X:=fun e=>hn (.inr (.inr e))
  simp only[go_sem,seval,q1,q2]
  exact st1.old b hb fun q=>hn (q.elim .inl fun q=>.inr (.inl q))
@[go_sem]def c184:CF:=⟨3,(Sq [qk 6 0,b 7 0] (Qq (Sq [a 10 0,a 11 1,a 12 2,qa 13 94 10 11 12,a 8 13] (Sq [a 14 8,z 15 54 14 0] (Kq 15 [a 16 8,qk 6 0,a 7 16] .skip))) (Sq [a 17 0,m 18 17,d 19 0 18,i 20 19,a 21 2,E 22 1 20 21,i 23 22,a 9 23] (Sq [a 24 0,a 25 1,a 26 2,a 27 9,zN 28 95 24 25 26 1 27] (Rq [a 29 9,a 6 29,b 7 0]))))),[.tmp 6,.tmp 7]⟩
@[go_sem]def c186:CF:=⟨4,(Sq [qk 8 0,b 9 0] (Qq (Sq [a 12 0,a 13 1,a 14 2,qa 15 94 12 13 14,a 10 15] (Sq [a 16 10,z 17 54 16 0] (Kq 17 [a 18 10,qk 8 0,a 9 18] .skip))) (Sq [a 19 0,m 20 19,d 21 0 20,i 22 21,a 23 2,E 24 1 22 23,i 25 24,a 26 3,qf 27 51 25 26,a 11 27] (Sq [a 28 0,a 29 1,a 30 2,a 31 11,zN 32 95 28 29 30 3 31] (Rq [a 33 11,a 8 33,b 9 0]))))),[.tmp 8,.tmp 9]⟩
@[go_sem]def c185:CF:=⟨3,(Sq [b 6 0] (Rq [a 7 0,m 8 7,d 9 1 8,i 10 9,a 11 1,qq 12 3 4 11,qf 13 3 10 12,a 14 2,qf 15 3 13 14,a 6 15])),[.tmp 6]⟩
@[go_sem]def c178:CF:=⟨1,(Sq [v 2 0] (Qq (Sq [a 3 0,u 4 217 3] (Kq 4 [v 2 0] .skip)) (Rq [a 5 0,m 6 5,d 7 3 6,i 8 7,a 2 8]))),[.tmp 2]⟩
@[go_sem]def c99:CF:=⟨4,(Sq [p 8,b 9 0] (Qq (Sq [a 12 0,u 13 212 12] (Kq 13 [p 8,b 9 1] .skip)) (Sq [a 14 2,qC 15 3 14 0,a 16 15,B 17 16 2,qy 18 16 3 17 64,O 19 16 18,a 20 19,B 21 20 0,B 22 20 2,qm 23 20 21,W 24 20 3 23,⟨some 25,some (20,true),.p (.iadrA 64 4 (.t 24) (.t 22))⟩,W 26 20 0 25,Y 27 20 26,O 28 20 27,a 10 28] (Qq (Sq [a 29 1,a 30 2,a 31 3,a 32 10,⟨some 33,none,.cv (.c (.fn (.func 175) [] [])) [.t 29,.t 30,.t 31,.c (.int .i64 64),.t 32]⟩,a 11 33] (Sq [a 34 11,z 35 54 34 0] (Kq 35 [a 36 11,p 8,a 9 36] .skip))) (Sq [a 37 0,a 38 2,m 39 37,d 40 3 39,qs 41 64 4 40 38,d 42 0 41,qE 1 42] (Qq (.drw ⟨[([g 0 0,g 1 2,g 2 3,g 3 0,n 4 46 3,j 5 47 4 2,k 6 48 5,z8 7 45 2 49 6 3,n 8 43 0,j 9 51 8 3,zm 10 52 9 44 1 64 4,j 11 53 10 2],some (R 12 54 11 50 7 1)),([],none)],[(0,43),(1,44),(2,45),(3,46),(4,47),(5,48),(6,49),(7,50),(8,51),(9,52),(10,53),(11,54)],[]⟩) (Rq [a 55 0,a 56 1,a 57 2,⟨some 58,none,.p (.build [.nilp,.int .i64 0,.int .i64 0,.int .u8 0] [(0,1,.t 55),(1,1,.t 56),(2,1,.t 57),(3,1,.c (.int .u8 15))])⟩,w 59 377 58,a 8 59,b 9 0]))))))),[.tmp 8,.tmp 9]⟩
@[go_sem]def c104:CF:=⟨1,(Sq [v 2 0,G 3] (Sq [a 7 0,q 8 178 7,a 4 8] (Qq (Sq [a 9 4] (.block 0 (Sq [J 11 5 9 15,a 10 11] (Cq 10 (Qq (.drw ⟨[([g 0 0,n 1 12 0,j 2 13 1 0,k 3 14 2,g 4 0,n 5 16 4,j 6 17 5 2,k 7 18 6,n 8 15 3,j 9 20 8 3,zm 10 21 9 19 7 64 4,y 11 22 10],none)],[(0,12),(1,13),(2,14),(3,15),(4,16),(5,17),(6,18),(7,19),(8,20),(9,21),(10,22),(11,5)],[]⟩) (Qq (.drw ⟨[([g 0 5,g 1 0,n 2 25 1,j 3 26 2 0,k 4 27 3,n 5 28 4,j 6 29 5 0,k 7 30 6,g 8 0,n 9 32 8,j 10 33 9 1,k 11 34 10,g 12 0,n 13 36 12,j 14 37 13 0,k 15 38 14,g 16 5,n 17 40 16,j 18 41 17 2,k 19 42 18],some ⟨20,[(39,some 15),(43,some 19)],none,.cv (.c (.fn (.func 185) [] [])) [.t 39,.t 43,.c (.int .i64 0)]⟩),([],some (qL 21 31 7 35 11 44 20 184)),([y 22 45 21,N 23 23 22 0,N 24 23 22 1,n 25 24 0,j 26 48 25 3],some (R 27 49 26 46 23 1)),([],none)],[(0,24),(1,25),(2,26),(3,27),(4,28),(5,29),(6,30),(7,31),(8,32),(9,33),(10,34),(11,35),(12,36),(13,37),(14,38),(15,39),(16,40),(17,41),(18,42),(19,43),(20,44),(21,45),(22,23),(23,46),(24,47),(25,48),(26,49)],[(⟨4,[(27,(some 3))],none,.r (.ld none (.t 27))⟩,[1]),(⟨7,[(30,(some 6))],none,.r (.ld none (.t 30))⟩,[1]),(⟨11,[(34,(some 10))],none,.r (.ld none (.t 34))⟩,[1])]⟩) (Oq [a 50 0,m 51 50,d 52 3 51,zp 1 52 16]))) (Sq [J 54 5 9 16,a 53 54] (Cq 53 (Qq (.drw ⟨[([g 0 0,n 1 55 0,j 2 56 1 0,k 3 57 2,g 4 0,n 5 59 4,j 6 60 5 2,k 7 61 6,n 8 58 3,j 9 63 8 3,zm 10 64 9 62 7 64 4,y 11 65 10],none)],[(0,55),(1,56),(2,57),(3,58),(4,59),(5,60),(6,61),(7,62),(8,63),(9,64),(10,65),(11,6)],[]⟩) (Qq (.drw ⟨[([g 0 0,n 1 66 0,j 2 67 1 0,k 3 68 2,n 4 69 3,j 5 70 4 0,k 6 71 5,g 7 0,n 8 73 7,j 9 74 8 1,k 10 75 9,g 11 0,n 12 77 11,j 13 78 12 0,k 14 79 13,g 15 6,n 16 81 15,j 17 82 16 2,k 18 83 17,g 19 6,n 20 85 19,j 21 86 20 3,k 22 87 21,⟨23,[(88,some 22)],none,.p (.conv .i64 (.t 88))⟩,qR 24 89 23 3 1],some (qL 25 80 14 84 18 90 24 185)),([],some (jq 26 72 6 76 10 91 25 186 1)),([],none)],[(0,66),(1,67),(2,68),(3,69),(4,70),(5,71),(6,72),(7,73),(8,74),(9,75),(10,76),(11,77),(12,78),(13,79),(14,80),(15,81),(16,82),(17,83),(18,84),(19,85),(20,86),(21,87),(22,88),(23,89),(24,90),(25,91),(26,92)],[(⟨3,[(68,(some 2))],none,.r (.ld none (.t 68))⟩,[1]),(⟨6,[(71,(some 5))],none,.r (.ld none (.t 71))⟩,[1]),(⟨10,[(75,(some 9))],none,.r (.ld none (.t 75))⟩,[1])]⟩) (Sq [a 93 6,m 94 93,d 95 1 94,qE 1 95] (Oq [a 96 0,m 97 96,d 98 3 97,zp 1 98 0])))) .skip)))))) (Rq [a 99 4,a 100 4,J 101 5 100 16,a 2 99,a 3 101])))),[.tmp 2,.tmp 3]⟩
theorem set_self{α:Type}{l:List α}{i:Nat}{x:α}(h:l[i]?=some x):l.set i x=l:=by
 obtain⟨hi,e⟩:=List.getElem?_eq_some_iff.1 h
 rw[←e]
 exact List.set_getElem_self hi
theorem w184(P:Program){call:CallE}(h94:F94 call)(h95:F95 call){h:H}{M W:Nat}{lv:AV}{ws:List Int}{l:List AccT}(m:RMemL h M W lv ws l)(hl:l.length<=1000000){t:Int}(t0:0<=t)(t1:t<64){i:Nat}{x:Int}(hx:ws[i]?=some x):
 WF P call c184 [.ptr M 0,.int .i64 t,.int .i64 (i:Int)] h fun v h'=>v=.tup [.int .u64 x,.int .i64 0]∧RPostN M W lv ws (l++[⟨t,(i:Int),1,x,x,false⟩]) h h':=by
 have hi:i<ws.length:=(List.getElem?_eq_some_iff.1 hx).1
 have k:=h94 h M W ws lv t (i:Int) m.mem t0 t1 (by omega) (by omega)
 have gM:=m.g
 have gW:=m.w
 have hx1:=uL_get hx
 have e1:(i:Int)<(ws.length:Int):=by omega
 simp only[go_sem,seval,k,gM,gW,e1,Nat.mul_one,hx1]
 refine opt_by (h95 h M W lv ws l t i x x 1 false m hl hx) fun v1 h1 p1=>?_
 obtain⟨rfl,p1⟩:=p1
 have es:ws.set i x=ws:=set_self hx
 rw[es]at p1
 simp only[go_sem,seval]
 exact p1
def F184(call:CallE):Prop:=∀h M W lv ws l (t:Int) (i:Nat) (x:Int),RMemL h M W lv ws l->l.length<=1000000->0<=t->t<64->ws[i]?=some x->Does call 184 [.ptr M 0,.int .i64 t,.int .i64 (i:Int)] h fun v h'=>v=.tup [.int .u64 x,.int .i64 0]∧RPostN M W lv ws (l++[⟨t,(i:Int),1,x,x,false⟩]) h h'
theorem w186(P:Program){call:CallE}(h94:F94 call)(h95:F95 call){h:H}{M W:Nat}{lv:AV}{ws:List Int}{l:List AccT}(m:RMemL h M W lv ws l)(hl:l.length<=1000000){t:Int}(t0:0<=t)(t1:t<64){i:Nat}{x:Int}(hx:ws[i]?=some x)(x0:0<=x)(x1:x<=1000):
 WF P call c186 [.ptr M 0,.int .i64 t,.int .i64 (i:Int),.int .u64 1] h fun v h'=>v=.tup [.int .u64 (x+1),.int .i64 0]∧RPostN M W lv (ws.set i (x+1)) (l++[⟨t,(i:Int),3,x,x+1,false⟩]) h h':=by
 have hi:i<ws.length:=(List.getElem?_eq_some_iff.1 hx).1
 have k:=h94 h M W ws lv t (i:Int) m.mem t0 t1 (by omega) (by omega)
 have gM:=m.g
 have gW:=m.w
 have hx1:=uL_get hx
 have e1:(i:Int)<(ws.length:Int):=by omega
 have f1:fw .u64 (x+1)=x+1:=fwU (by omega) (by omega)
 simp only[go_sem,seval,k,gM,gW,e1,Nat.mul_one,hx1,f1]
 refine opt_by (h95 h M W lv ws l t i x (x+1) 3 false m hl hx) fun v1 h1 p1=>?_
 obtain⟨rfl,p1⟩:=p1
 simp only[go_sem,seval]
 exact p1
def F186(call:CallE):Prop:=∀h M W lv ws l (t:Int) (i:Nat) (x:Int),RMemL h M W lv ws l->l.length<=1000000->0<=t->t<64->ws[i]?=some x->0<=x->x<=1000->Does call 186 [.ptr M 0,.int .i64 t,.int .i64 (i:Int),.int .u64 1] h fun v h'=>v=.tup [.int .u64 (x+1),.int .i64 0]∧RPostN M W lv (ws.set i (x+1)) (l++[⟨t,(i:Int),3,x,x+1,false⟩]) h h'
def quadC(l:List (Bool×Bool)):List AV:=l.flatMap fun p=>[.bool p.1,.bool p.2,.int .i64 0,.int .u64 0]
theorem quadC_len:∀l,(quadC l).length=l.length*4
 | []=>rfl
 |p::l=>by
  have:=quadC_len l
  show(AV.bool p.1::AV.bool p.2::AV.int .i64 0::AV.int .u64 0::quadC l).length=_
  rw[List.length_cons,List.length_cons,List.length_cons,List.length_cons,this,List.length_cons]
  omega
theorem quadC_get:∀(l:List (Bool×Bool)) (s:Nat) (b c:Bool),l[s]?=some (b,c)->(quadC l)[s*4]?=some (.bool b)∧(quadC l)[s*4+1]?=some (.bool c)∧(quadC l)[s*4+2]?=some (.int .i64 0)∧(quadC l)[s*4+3]?=some (.int .u64 0)
 | [],s,b,c,h=>by simp at h
 |p::l,0,b,c,h=>by
  simp only[List.getElem?_cons_zero,Option.some.injEq]at h
  subst h
  exact⟨rfl,rfl,rfl,rfl⟩
 |p::l,s+1,b,c,h=>by
  have:=quadC_get l s b c (by simpa using h)
  rw[Nat.add_mul]
  exact this
theorem quadC_set:∀(l:List (Bool×Bool)) (s:Nat) (b c:Bool),l[s]?=some (b,c)->(∀z,(quadC l).set (s*4) (.bool z)=quadC (l.set s (z,c)))∧(∀z,(quadC l).set (s*4+1) (.bool z)=quadC (l.set s (b,z)))∧(quadC l).set (s*4+2) (.int .i64 0)=quadC l∧(quadC l).set (s*4+3) (.int .u64 0)=quadC l
 | [],s,b,c,h=>by simp at h
 |p::l,0,b,c,h=>by
  simp only[List.getElem?_cons_zero,Option.some.injEq]at h
  subst h
  exact⟨fun z=>rfl,fun z=>rfl,rfl,rfl⟩
 |p::l,s+1,b,c,h=>by
  have:=quadC_set l s b c (by simpa using h)
  rw[Nat.add_mul]
  have q:∀{a b:List AV},a=b->AV.bool p.1::AV.bool p.2::AV.int .i64 0::AV.int .u64 0::a=AV.bool p.1::AV.bool p.2::AV.int .i64 0::AV.int .u64 0::b:=fun h=>by rw[h]
  exact⟨fun z=>q (this.1 z),fun z=>q (this.2.1 z),q this.2.2.1,q this.2.2.2⟩
def gC(M bs nb:Nat)(sl:List (Bool×Bool)):List AV:=.ptr M 0::.int .i64 (bs:Int)::.int .i64 (nb:Int)::quadC sl
theorem gC_len{M bs nb:Nat}{sl:List (Bool×Bool)}(h:sl.length=64):(gC M bs nb sl).length=259:=by
 unfold gC
 rw[List.length_cons,List.length_cons,List.length_cons,quadC_len,h]
theorem gC_0(M bs nb:Nat)(sl:List (Bool×Bool)):(gC M bs nb sl)[0]?=some (.ptr M 0)∧(gC M bs nb sl)[1]?=some (.int .i64 (bs:Int))∧(gC M bs nb sl)[2]?=some (.int .i64 (nb:Int)):=⟨rfl,rfl,rfl⟩
theorem gC_get{M bs nb:Nat}{l:List (Bool×Bool)}{s:Nat}{b c:Bool}(h:l[s]?=some (b,c)):(gC M bs nb l)[3+s*4]?=some (.bool b)∧(gC M bs nb l)[3+(s*4+1)]?=some (.bool c)∧(gC M bs nb l)[3+(s*4+2)]?=some (.int .i64 0)∧(gC M bs nb l)[3+(s*4+3)]?=some (.int .u64 0):=by
 have:=quadC_get l s b c h
 have e:∀j,3+j=j+1+1+1:=fun j=>by omega
 rw[e,e,e,e]
 exact this
theorem gC_set{M bs nb:Nat}{l:List (Bool×Bool)}{s:Nat}{b c:Bool}(h:l[s]?=some (b,c)):(∀z,(gC M bs nb l).set (3+s*4) (.bool z)=gC M bs nb (l.set s (z,c)))∧(∀z,(gC M bs nb l).set (3+(s*4+1)) (.bool z)=gC M bs nb (l.set s (b,z)))∧(gC M bs nb l).set (3+(s*4+2)) (.int .i64 0)=gC M bs nb l∧(gC M bs nb l).set (3+(s*4+3)) (.int .u64 0)=gC M bs nb l:=by
 have:=quadC_set l s b c h
 have e:∀j,3+j=j+1+1+1:=fun j=>by omega
 have q:∀{x y:List AV},x=y->AV.ptr M 0::AV.int .i64 (bs:Int)::AV.int .i64 (nb:Int)::x=AV.ptr M 0::AV.int .i64 (bs:Int)::AV.int .i64 (nb:Int)::y:=fun h=>by rw[h]
 rw[e,e,e,e]
 exact⟨fun z=>q (this.1 z),fun z=>q (this.2.1 z),q this.2.2.1,q this.2.2.2⟩
structure GatR(h:H)(M bs nb G:Nat)(sl:List (Bool×Bool)):Prop where
 gG:h.t.get G=some (.row (putList 0 (gC M bs nb sl) T.e) 259 375)
 ln:sl.length=64
 nb1:1<=nb
 nb2:nb<=16
 lG:G<h.next
theorem GatR.keep{h h':H}{M bs nb G:Nat}{sl:List (Bool×Bool)}(m:GatR h M bs nb G sl)(hn:h.next<=h'.next)(k:h'.t.get G=h.t.get G):GatR h' M bs nb G sl:=⟨k.trans m.gG,m.ln,m.nb1,m.nb2,Nat.lt_of_lt_of_le m.lG hn⟩
def gZ(nu:List Int):List (Bool×Bool):=(List.range 64).map fun i=>(decide (nu[i]?=some 1),decide (nu[i]?=some 1))
theorem gZ_get{nu:List Int}{s:Nat}{x:Int}(h:nu[s]?=some x)(hs:s<64):(gZ nu)[s]?=some (decide (x=1),decide (x=1)):=by
 unfold gZ
 rw[List.getElem?_map,List.getElem?_range hs,Option.map_some,h]
 simp only[Option.some.injEq]
theorem gZ_set{nu:List Int}{s:Nat}(hs:s<nu.length):(gZ nu).set s (true,true)=gZ (nu.set s 1):=by
 refine List.ext_getElem? fun i=>?_
 by_cases hi:i<64
 ·by_cases e:s=i
  ·subst e
   rw[List.getElem?_set_self (by unfold gZ;rw[List.length_map,List.length_range];exact hi)]
   rw[gZ_get (x:=1) (by rw[List.getElem?_set_self hs]) hi]
   rfl
  ·rw[List.getElem?_set_ne e]
   unfold gZ
   rw[List.getElem?_map,List.getElem?_map,List.getElem?_range hi,Option.map_some,Option.map_some,List.getElem?_set_ne e]
 ·rw[List.getElem?_eq_none (by rw[List.length_set];unfold gZ;rw[List.length_map,List.length_range];omega),List.getElem?_eq_none (by unfold gZ;rw[List.length_map,List.length_range];omega)]
theorem w185(P:Program){call:CallE}{h:H}{G bs:Nat}{a:AV}{cs:List AV}{n e:Nat}(gG:h.t.get G=some (.row (putList 0 (a::.int .i64 (bs:Int)::cs) T.e) n e)){j:Nat}(hj:j<=3)(hb:bs<=60000):WF P call c185 [.ptr G 0,.int .i64 0,.int .i64 (j:Int)] h fun v h'=>v=.int .i64 ((bs+j:Nat):Int)∧h'=h:=by
 have f0:fw .i64 0=0:=rfl
 have f1:fw .i64 (4*0)=0:=rfl
 have f2:fw .i64 (bs:Int)=(bs:Int):=fwI (by omega) (by omega)
 have f3:fw .i64 ((bs:Int)+(j:Int))=((bs+j:Nat):Int):=by rw[fwI (by omega) (by omega)];omega
 simp only[go_sem,↓reduceIte,↓reduceDIte,Nat.reduceAdd,Nat.reduceMul,Nat.reduceLT,Nat.reduceEqDiff,Nat.reduceLeDiff,Int.reduceAdd,Int.reduceLE,Int.reduceLT,Int.reduceEq,Int.reduceToNat,reduceCtorEq,gG,f1,Int.add_zero,f2,f3]
def F185(call:CallE):Prop:=∀h G (bs:Nat) a cs n e (j:Nat),h.t.get G=some (.row (putList 0 (a::.int .i64 (bs:Int)::cs) T.e) n e)->j<=3->bs<=60000->call 185 [.ptr G 0,.int .i64 0,.int .i64 (j:Int)] h=some (.int .i64 ((bs+j:Nat):Int),h)
def xG(G:Nat)(t:Int)(s:Nat)(pc:Int):AO:=rowL [.ptr G 0,.int .i64 t,.int .i64 (s:Int),.int .u8 pc] 377
theorem w178{h:H}{X:Nat}{a b c:AV}{pc:Int}(gX:h.t.get X=some (rowL [a,b,c,.int .u8 pc] 377)):WF P call c178 [.ptr X 0] h fun v h'=>v=.int .u8 pc∧h'=h:=by
 simp only[go_sem,seval,gX]
def F178(call:CallE):Prop:=∀h X a b c (pc:Int),h.t.get X=some (rowL [a,b,c,.int .u8 pc] 377)->call 178 [.ptr X 0] h=some (.int .u8 pc,h)
def PostEG(M bs nb G:Nat)(nu:List Int)(s:Nat)(x t:Int)(h:H)(v:AV)(h':H):Prop:=
 (x=1∧v=.tup [.nilp,.int .i64 8]∧h'=h)∨(x=0∧∃X,v=.tup [.ptr X 0,.int .i64 0]∧h.next<=X∧X<h'.next∧h'.t.get X=some (xG G t s 15)∧GatR h' M bs nb G ((gZ nu).set s (true,false))∧Tch (fun b=>b=G) h h')
theorem w99(h175:F175 call){h:H}{M bs nb G:Nat}{nu:List Int}(m:GatR h M bs nb G (gZ nu)){t:Int}(t0:0<=t)(t1:t<64){s:Nat}(hs:s<64){x:Int}(hx:nu[s]?=some x)(x1:x=0∨x=1):
 WF P call c99 [.ptr G 0,.int .i64 t,.int .i64 (s:Int),.int .i64 0] h (PostEG M bs nb G nu s x t h):=by
 have gG:=m.gG
 have hx0:=gZ_get hx hs
 have hcl:(gC M bs nb (gZ nu)).length=259:=gC_len m.ln
 obtain⟨c0,c1,c2⟩:=gC_0 M bs nb (gZ nu)
 obtain⟨d0,d1,d2⟩:=gC_0 M bs nb ((gZ nu).set s (true,false))
 obtain⟨g0,g1,g2,g3⟩:=gC_get (M:=M) (bs:=bs) (nb:=nb) hx0
 have hst:=(gC_set (M:=M) (bs:=bs) (nb:=nb) hx0).1
 have ls:=m.ln
 have hx1:((gZ nu).set s (true,false))[s]?=some (true,false):=by rw[List.getElem?_set_self (by omega)]
 have hs2:=(gC_set (M:=M) (bs:=bs) (nb:=nb) hx1).2.2.1
 have hcl1:(gC M bs nb ((gZ nu).set s (true,false))).length=259:=gC_len (by rw[List.length_set];exact ls)
 have b1:3+s*4<259:=by omega
 have b2:3+(s*4+1)<=259:=by omega
 have b3:3+(s*4+2)<259:=by omega
 have b4:3+(s*4+2+1)<=259:=by omega
 have e0:(0:Int)<=(s:Int):=by omega
 have e3:¬(s:Int)<0:=by omega
 have e1:(s:Int)<64:=by omega
 have k0:call 175 [.int .i64 t,.int .i64 (s:Int),.int .i64 0,.int .i64 64,.bool false] h=some (.int .i64 0,h):=h175 h t s 64 false t0 t1 e0 e1
 have k8:call 175 [.int .i64 t,.int .i64 (s:Int),.int .i64 0,.int .i64 64,.bool true] h=some (.int .i64 8,h):=h175 h t s 64 true t0 t1 e0 e1
 have z:¬(nb:Int)=0:=by have:=m.nb1;omega
 have m0:Int.tmod 0 (nb:Int)=0:=Int.zero_tmod _
 have f0:fw .i64 0=0:=rfl
 rcases x1 with rfl|rfl
 ·simp only[go_sem,seval,gG,e0,e3,e1,g0,hcl,hst,k0,z,m0,f0,c0,c1,c2,d0,d1,d2,b1,b2,b3,b4,hs2,hcl1]
  have lG:=m.lG
  have n1:¬G=h.next:=by omega
  refine .inr ⟨rfl,h.next,rfl,Nat.le_refl _,Nat.lt_succ_self _,by simp only[go_sem,seval];rfl,⟨by simp[go_sem,n1],by rw[List.length_set];exact ls,m.nb1,m.nb2,Nat.lt_succ_of_lt lG⟩,⟨Nat.le_succ _,fun b hb hn=>?_⟩⟩
  have n4:¬b=h.next:=by omega
  simp only[go_sem,seval,n4,hn]
 ·simp only[go_sem,seval,gG,e0,e3,e1,g0,hcl,k8]
  exact .inl ⟨rfl,rfl,rfl⟩
def PostRG(M W bs nb G X:Nat)(xo:AO)(sl:List (Bool×Bool))(lv:AV)(ws:List Int)(l:List AccT)(h h':H):Prop:=
 ∃lv',RMemL h' M W lv' ws l∧GatR h' M bs nb G sl∧h'.t.get X=some xo∧(∀b,own lv'=some b->h.next<=b)∧Tch (fun b=>memS M W lv b∨b=G∨b=X) h h'
theorem w104z(h178:F178 call){h:H}{X G:Nat}{t:Int}{s:Nat}(gX:h.t.get X=some (xG G t s 0)):WF P call c104 [.ptr X 0] h fun v h'=>v=.tup [.int .u8 0,.bool false]∧h'=h:=by
 have k:=h178 h X _ _ _ 0 gX
 simp only[go_sem,seval,k]
theorem w104a(h178:F178 call)(h184:F184 call)(h185:F185 call){h:H}{M W bs nb G X:Nat}{sl:List (Bool×Bool)}{lv:AV}{ws:List Int}{l:List AccT}{t:Int}{s:Nat}{b c:Bool}(m:GatR h M bs nb G sl)(mm:RMemL h M W lv ws l)(hl:l.length<=1000000)(hb:bs<=60000)(hs:s<64)(hx:sl[s]?=some (b,c))
 (gX:h.t.get X=some (xG G t s 15)) (lX:X<h.next) (t0:0<=t) (t1:t<64) (hy:ws[bs]?=some 0):
 WF P call c104 [.ptr X 0] h fun v h'=>v=.tup [.int .u8 15,.bool false]∧PostRG M W bs nb G X (xG G t s 16) sl lv ws (l++[⟨t,(bs:Int),1,0,0,false⟩]) h h':=by
 have gG:=m.gG
 have k:=h178 h X _ _ _ 15 gX
 have dX:=mm.off (offQ (by exact gX) (by decide) (by decide) (by decide))
 have dG:=mm.off (offQ gG (by decide) (by decide) (by decide))
 have XG:¬X=G:=rowL_ne (by exact gX) gG (by decide)
 have GX:¬G=X:=fun e=>XG e.symm
 have hcl:(gC M bs nb sl).length=259:=gC_len m.ln
 obtain⟨c0,c1,c2⟩:=gC_0 M bs nb sl
 obtain⟨g0,g1,g2,g3⟩:=gC_get (M:=M) (bs:=bs) (nb:=nb) hx
 obtain⟨s0,s1,s2,s3⟩:=gC_set (M:=M) (bs:=bs) (nb:=nb) hx
 have e3:¬(s:Int)<0:=by omega
 have e1:(s:Int)<64:=by omega
 have b3:3+(s*4+3)<259:=by omega
 have b4:3+(s*4+3+1)<=259:=by omega
 have b5:3+(s*4+4)<=259:=by omega
 have k5:call 185 [.ptr G 0,.int .i64 0,.int .i64 0] h=some (.int .i64 (bs:Int),h):=h185 h G bs (.ptr M 0) _ _ _ 0 gG (by omega) hb
 have gX0:=gX
 unfold xG at gX0
 simp only[go_sem,seval,k,gX0,gG,c0,c1,c2,g2,e1,e3,k5]
 refine opt_by (h184 h M W lv ws l t bs 0 mm hl t0 t1 hy) fun v1 h1 p1=>?_
 obtain⟨rfl,lv',m1,lo1,st1⟩:=p1
 have nx1:=st1.next
 have gX1:=(st1.old X lX dX).trans gX0
 have gG1:=(st1.old G m.lG dG).trans gG
 simp only[go_sem,seval,nx1,gX1,gG1,c0,c1,c2,g3,e1,e3,hcl,b3,b4,b5,s3,XG,gX0,gG]
 have dlv:∀b,b=G∨b=X->¬memS M W lv' b:=fun b hb=>m1.off (hb.elim (fun q=>q▸offQ gG1 (by decide) (by decide) (by decide)) fun q=>q▸offQ gX1 (by decide) (by decide) (by decide))
 refine⟨lv',m1.keep (Nat.le_refl _) fun b hb hS=>?_,⟨by simp[go_sem,GX],m.ln,m.nb1,m.nb2,Nat.lt_of_lt_of_le m.lG nx1⟩,by simp only[go_sem,seval];rfl,lo1,nx1,fun b hb hn=>?_⟩
 ·have q1:¬b=G:=fun e=>dlv b (.inl e) hS
  have q2:¬b=X:=fun e=>dlv b (.inr e) hS
  simp only[go_sem,seval,q1,q2]
 ·have q1:¬b=G:=fun e=>hn (.inr (.inl e))
  have q2:¬b=X:=fun e=>hn (.inr (.inr e))
  simp only[go_sem,seval,q1,q2]
  exact st1.old b hb fun q=>hn (.inl q)
theorem w104b(h178:F178 call)(h186:F186 call)(h185:F185 call){h:H}{M W bs nb G X:Nat}{nu:List Int}{lv:AV}{ws:List Int}{l:List AccT}{t:Int}{s:Nat}(m:GatR h M bs nb G ((gZ nu).set s (true,false)))(mm:RMemL h M W lv ws l)(hl:l.length<=1000000)(hb:bs<=60000)(hs:s<64)(hsn:s<nu.length)
 (gX:h.t.get X=some (xG G t s 16)) (lX:X<h.next) (t0:0<=t) (t1:t<64) {y:Int} (hy:ws[bs+1]?=some y) (y0:0<=y) (y1:y<=1000):
 WF P call c104 [.ptr X 0] h fun v h'=>v=.tup [.int .u8 16,.bool true]∧PostRG M W bs nb G X (xG G t s 0) (gZ (nu.set s 1)) lv (ws.set (bs+1) (y+1)) (l++[⟨t,((bs+1:Nat):Int),3,y,y+1,false⟩]) h h':=by
 have gG:=m.gG
 have ls:=m.ln
 have k:=h178 h X _ _ _ 16 gX
 have dX:=mm.off (offQ (by exact gX) (by decide) (by decide) (by decide))
 have dG:=mm.off (offQ gG (by decide) (by decide) (by decide))
 have XG:¬X=G:=rowL_ne (by exact gX) gG (by decide)
 have GX:¬G=X:=fun e=>XG e.symm
 have hx:((gZ nu).set s (true,false))[s]?=some (true,false):=by rw[List.length_set]at ls;rw[List.getElem?_set_self (by omega)]
 have hcl:(gC M bs nb ((gZ nu).set s (true,false))).length=259:=gC_len m.ln
 obtain⟨c0,c1,c2⟩:=gC_0 M bs nb ((gZ nu).set s (true,false))
 obtain⟨g0,g1,g2,g3⟩:=gC_get (M:=M) (bs:=bs) (nb:=nb) hx
 obtain⟨s0,s1,s2,s3⟩:=gC_set (M:=M) (bs:=bs) (nb:=nb) hx
 have s1':=s1 true
 rw[List.set_set,gZ_set hsn]at s1'
 have e3:¬(s:Int)<0:=by omega
 have e1:(s:Int)<64:=by omega
 have b3:3+(s*4+1)<259:=by omega
 have b4:3+(s*4+1+1)<=259:=by omega
 have b5:3+(s*4+2)<=259:=by omega
 have f0:fw .i64 0=0:=rfl
 have f1:fw .i64 1=1:=rfl
 have k5:call 185 [.ptr G 0,.int .i64 0,.int .i64 1] h=some (.int .i64 ((bs+1:Nat):Int),h):=h185 h G bs (.ptr M 0) _ _ _ 1 gG (by omega) hb
 have gX0:=gX
 unfold xG at gX0
 simp only[go_sem,seval,k,gX0,gG,c0,c1,c2,g2,g3,e1,e3,k5,f0,f1]
 refine opt_by (h186 h M W lv ws l t (bs+1) y mm hl t0 t1 hy y0 y1) fun v1 h1 p1=>?_
 obtain⟨rfl,lv',m1,lo1,st1⟩:=p1
 have nx1:=st1.next
 have gX1:=(st1.old X lX dX).trans gX0
 have gG1:=(st1.old G m.lG dG).trans gG
 simp only[go_sem,seval,nx1,gX1,gG1,c0,c1,c2,g3,e1,e3,hcl,b3,b4,b5,s1',XG,gX0,gG]
 have dlv:∀b,b=G∨b=X->¬memS M W lv' b:=fun b hb=>m1.off (hb.elim (fun q=>q▸offQ gG1 (by decide) (by decide) (by decide)) fun q=>q▸offQ gX1 (by decide) (by decide) (by decide))
 refine⟨lv',m1.keep (Nat.le_refl _) fun b hb hS=>?_,⟨by simp[go_sem,GX],by unfold gZ;rw[List.length_map,List.length_range],m.nb1,m.nb2,Nat.lt_of_lt_of_le m.lG nx1⟩,by simp only[go_sem,seval];rfl,lo1,nx1,fun b hb hn=>?_⟩
 ·have q1:¬b=G:=fun e=>dlv b (.inl e) hS
  have q2:¬b=X:=fun e=>dlv b (.inr e) hS
  simp only[go_sem,seval,q1,q2]
 ·have q1:¬b=G:=fun e=>hn (.inr (.inl e))
  have q2:¬b=X:=fun e=>hn (.inr (.inr e))
  simp only[go_sem,seval,q1,q2]
  exact st1.old b hb fun q=>hn (.inl q)
end
end Go.Proofs.YtghmnaojmpjglaaGreatDoor.PR
