/-
  What functions of the program compute, one by one. Conditions: those of each theorem.
-/
import Derived.Test.YtghmnaojmpjglaaGreatDoorPwE
set_option linter.all false
namespace Go.Proofs.YtghmnaojmpjglaaGreatDoor.PR
open Go.Proofs.YtghmnaojmpjglaaGreatDoor.Eo
noncomputable section
variable(P:Program)[PT P]{call:CallE}
inductive RK where
 |full (G N:Nat)
 |each (G N:Nat)
 |gate (G nb:Nat)
def RK.G:RK->Nat
 | .full G _=>G
 | .each G _=>G
 | .gate G _=>G
def RK.tag:RK->Nat
 | .full _ _=>1
 | .each _ _=>2
 | .gate _ _=>3
def RK.st:RK->FuncId
 | .full _ _=>102
 | .each _ _=>103
 | .gate _ _=>104
def RK.en:RK->FuncId
 | .full _ _=>97
 | .each _ _=>98
 | .gate _ _=>99
def rkF:RK->Nat->Prop
 | .full G N=>fun b=>b=G∨b=N
 | .each G N=>fun b=>b=G∨b=N
 | .gate G _=>fun b=>b=G
def rkM:RK->Nat->Prop
 | .full G N=>fun b=>b=N
 | .each G N=>fun b=>b=N
 | .gate G _=>fun b=>b=G
def EngB(h:H)(M n bs:Nat)(nu:List Int):RK->Prop
 | .full G N=>TriE h M n bs G N 362 (tZ nu)
 | .each G N=>TriE h M n bs G N 368 (tZ nu)
 | .gate G nb=>nu.length=n∧GatR h M bs nb G (gZ nu)
def penR(h:H)(M n bs:Nat)(nu:List Int)(t:Int)(s X:Nat):RK->Nat->Prop
 | .full G N,0=>TriE h M n bs G N 362 ((tZ nu).set s (0,true,false))∧h.t.get X=some (xT G t s false)
 | .full G N,_+1=>TriE h M n bs G N 362 (tZ (nu.set s 1))∧h.t.get X=some (xT G t s true)
 | .each G N,0=>TriE h M n bs G N 368 ((tZ nu).set s (0,true,false))∧h.t.get X=some (xU G t s 14)
 | .each G N,1=>TriE h M n bs G N 368 ((tZ nu).set s (0,true,false))∧h.t.get X=some (xU G t s 13)
 | .each G N,_+2=>TriE h M n bs G N 368 (tZ (nu.set s 1))∧h.t.get X=some (xU G t s 0)
 | .gate G nb,0=>GatR h M bs nb G ((gZ nu).set s (true,false))∧h.t.get X=some (xG G t s 15)
 | .gate G nb,1=>GatR h M bs nb G ((gZ nu).set s (true,false))∧h.t.get X=some (xG G t s 16)
 | .gate G nb,_+2=>GatR h M bs nb G (gZ (nu.set s 1))∧h.t.get X=some (xG G t s 0)
structure PenB(h:H)(M n bs:Nat)(nu:List Int)(t:Int)(s X:Nat)(rk:RK)(d:Nat):Prop where
 e:penR h M n bs nu t s X rk d
 lX:X<h.next
 ns:nu[s]?=some 0
 hs:s<n
 ln:nu.length=n
theorem TriE.lt{h:H}{M n bs G N:Nat}{ty:TypeId}{sl:List (Int×Bool×Bool)}(m:TriE h M n bs G N ty sl){b:Nat}(hb:b=G∨b=N):b<h.next:=hb.elim (fun q=>q▸m.lG) fun q=>q▸m.lN
theorem EngB.keep{h h':H}{M n bs:Nat}{nu:List Int}{rk:RK}(m:EngB h M n bs nu rk)(hn:h.next<=h'.next)(k:∀b,b<h.next->rkF rk b->h'.t.get b=h.t.get b):EngB h' M n bs nu rk:=by
 cases rk with
 |full G N=>
  have m':TriE h M n bs G N 362 (tZ nu):=m
  exact m'.keep hn fun b hb=>k b (m'.lt hb) hb
 |each G N=>
  have m':TriE h M n bs G N 368 (tZ nu):=m
  exact m'.keep hn fun b hb=>k b (m'.lt hb) hb
 |gate G nb=>exact⟨m.1,m.2.keep hn (k G m.2.lG rfl)⟩
theorem EngB.step{h h':H}{M n bs:Nat}{nu:List Int}{rk:RK}(m:EngB h M n bs nu rk)(s:StepN h h'):EngB h' M n bs nu rk:=m.keep s.next fun b lb _=>s.old b lb
theorem PenB.off{h:H}{M n bs:Nat}{nu:List Int}{t:Int}{s X:Nat}{rk:RK}{d:Nat}(m:PenB h M n bs nu t s X rk d){b:Nat}(hb:rkF rk b∨b=X):∃c k e,h.t.get b=some (.row c k e)∧(e=362∨e=368∨e=364∨e=375∨e=367∨e=370∨e=377):=by
 obtain⟨e,lX,ns,hs,ln⟩:=m
 cases rk with
 |full G N=>
  have g:∃sl c,TriE h M n bs G N 362 sl∧h.t.get X=some (xT G t s c):=by
   cases d with
   |zero=>exact⟨_,_,e⟩
   |succ d=>exact⟨_,_,e⟩
  obtain⟨sl,c,e1,gX⟩:=g
  rcases hb with(rfl|rfl)|rfl
  ·exact⟨_,_,_,e1.gG,by simp⟩
  ·exact⟨_,_,_,e1.gN,by simp⟩
  ·exact⟨_,_,_,gX,by simp⟩
 |each G N=>
  have g:∃sl c,TriE h M n bs G N 368 sl∧h.t.get X=some (xU G t s c):=by
   match d,e with
   |0,e=>exact⟨_,_,e⟩
   |1,e=>exact⟨_,_,e⟩
   |d+2,e=>exact⟨_,_,e⟩
  obtain⟨sl,c,e1,gX⟩:=g
  rcases hb with(rfl|rfl)|rfl
  ·exact⟨_,_,_,e1.gG,by simp⟩
  ·exact⟨_,_,_,e1.gN,by simp⟩
  ·exact⟨_,_,_,gX,by simp⟩
 |gate G nb=>
  have g:∃sl c,GatR h M bs nb G sl∧h.t.get X=some (xG G t s c):=by
   match d,e with
   |0,e=>exact⟨_,_,e⟩
   |1,e=>exact⟨_,_,e⟩
   |d+2,e=>exact⟨_,_,e⟩
  obtain⟨sl,c,e1,gX⟩:=g
  rcases hb with rfl|rfl
  ·exact⟨_,_,_,e1.gG,by simp⟩
  ·exact⟨_,_,_,gX,by simp⟩
theorem PenB.keep{h h':H}{M n bs:Nat}{nu:List Int}{t:Int}{s X:Nat}{rk:RK}{d:Nat}(m:PenB h M n bs nu t s X rk d)(hn:h.next<=h'.next)(k:∀b,b<h.next->rkF rk b∨b=X->h'.t.get b=h.t.get b):PenB h' M n bs nu t s X rk d:=by
 obtain⟨e,lX,ns,hs,ln⟩:=m
 refine⟨?_,Nat.lt_of_lt_of_le lX hn,ns,hs,ln⟩
 have kX:=k X lX (.inr rfl)
 cases rk with
 |full G N=>
  cases d with
  |zero=>exact⟨e.1.keep hn fun b hb=>k b (e.1.lt hb) (.inl hb),kX.trans e.2⟩
  |succ d=>exact⟨e.1.keep hn fun b hb=>k b (e.1.lt hb) (.inl hb),kX.trans e.2⟩
 |each G N=>
  match d,e with
  |0,e=>exact⟨e.1.keep hn fun b hb=>k b (e.1.lt hb) (.inl hb),kX.trans e.2⟩
  |1,e=>exact⟨e.1.keep hn fun b hb=>k b (e.1.lt hb) (.inl hb),kX.trans e.2⟩
  |d+2,e=>exact⟨e.1.keep hn fun b hb=>k b (e.1.lt hb) (.inl hb),kX.trans e.2⟩
 |gate G nb=>
  match d,e with
  |0,e=>exact⟨e.1.keep hn (k G e.1.lG (.inl rfl)),kX.trans e.2⟩
  |1,e=>exact⟨e.1.keep hn (k G e.1.lG (.inl rfl)),kX.trans e.2⟩
  |d+2,e=>exact⟨e.1.keep hn (k G e.1.lG (.inl rfl)),kX.trans e.2⟩
theorem PenB.step{h h':H}{M n bs:Nat}{nu:List Int}{t:Int}{s X:Nat}{rk:RK}{d:Nat}(m:PenB h M n bs nu t s X rk d)(st:StepN h h'):PenB h' M n bs nu t s X rk d:=m.keep st.next fun b lb _=>st.old b lb
theorem PenB.done{h:H}{M n bs:Nat}{nu:List Int}{t:Int}{s X:Nat}{rk:RK}{d:Nat}(m:PenB h M n bs nu t s X rk (d+2)):EngB h M n bs (nu.set s 1) rk:=by
 cases rk with
 |full G N=>exact m.e.1
 |each G N=>exact m.e.1
 |gate G nb=>exact⟨by rw[List.length_set];exact m.ln,m.e.1⟩
def F102z(call:CallE):Prop:=∀h X G (t:Int) (s:Nat),h.t.get X=some (xT G t s true)->call 102 [.ptr X 0] h=some (.tup [.int .u8 0,.bool false],h)
def F103z(call:CallE):Prop:=∀h X G (t:Int) (s:Nat),h.t.get X=some (xU G t s 0)->call 103 [.ptr X 0] h=some (.tup [.int .u8 0,.bool false],h)
def F104z(call:CallE):Prop:=∀h X G (t:Int) (s:Nat),h.t.get X=some (xG G t s 0)->call 104 [.ptr X 0] h=some (.tup [.int .u8 0,.bool false],h)
def F102a(call:CallE):Prop:=∀h M W n bs G N X nu lv ws l (t:Int) (s:Nat) (y:Int),TriE h M n bs G N 362 ((tZ nu).set s (0,true,false))->RMemL h M W lv ws l->l.length<=1000000->bs+n*2<=5000->n<=64->s<n->h.t.get X=some (xT G t s false)->X<h.next->0<=t->t<64->ws[bs+s]?=some y->
 Does call 102 [.ptr X 0] h fun v h'=>v=.tup [.int .u8 13,.bool true]∧PostRT M W n bs G N X 362 (xT G t s true) (tZ (nu.set s 1)) lv (ws.set (bs+s) 1) (l++[⟨t,((bs+s:Nat):Int),2,y,1,false⟩]) h h'
def F103a(call:CallE):Prop:=∀h M W n bs G N X sl lv ws l (t:Int) (s:Nat) (y:Int),TriE h M n bs G N 368 sl->RMemL h M W lv ws l->l.length<=1000000->bs+n*2<=5000->n<=64->s<n->h.t.get X=some (xU G t s 14)->X<h.next->0<=t->t<64->ws[bs+(2*s+1)]?=some y->
 Does call 103 [.ptr X 0] h fun v h'=>v=.tup [.int .u8 14,.bool false]∧PostRT M W n bs G N X 368 (xU G t s 13) sl lv (ws.set (bs+(2*s+1)) 0) (l++[⟨t,((bs+(2*s+1):Nat):Int),2,y,0,false⟩]) h h'
def F103b(call:CallE):Prop:=∀h M W n bs G N X nu lv ws l (t:Int) (s:Nat) (y:Int),TriE h M n bs G N 368 ((tZ nu).set s (0,true,false))->RMemL h M W lv ws l->l.length<=1000000->bs+n*2<=5000->n<=64->s<n->h.t.get X=some (xU G t s 13)->X<h.next->0<=t->t<64->ws[bs+2*s]?=some y->
 Does call 103 [.ptr X 0] h fun v h'=>v=.tup [.int .u8 13,.bool true]∧PostRT M W n bs G N X 368 (xU G t s 0) (tZ (nu.set s 1)) lv (ws.set (bs+2*s) 1) (l++[⟨t,((bs+2*s:Nat):Int),2,y,1,false⟩]) h h'
def F104a(call:CallE):Prop:=∀h M W bs nb G X sl lv ws l (t:Int) (s:Nat) b c,GatR h M bs nb G sl->RMemL h M W lv ws l->l.length<=1000000->bs<=60000->s<64->sl[s]?=some (b,c)->h.t.get X=some (xG G t s 15)->X<h.next->0<=t->t<64->ws[bs]?=some 0->
 Does call 104 [.ptr X 0] h fun v h'=>v=.tup [.int .u8 15,.bool false]∧PostRG M W bs nb G X (xG G t s 16) sl lv ws (l++[⟨t,(bs:Int),1,0,0,false⟩]) h h'
def F104b(call:CallE):Prop:=∀h M W bs nb G X nu lv ws l (t:Int) (s:Nat) (y:Int),GatR h M bs nb G ((gZ nu).set s (true,false))->RMemL h M W lv ws l->l.length<=1000000->bs<=60000->s<64->s<nu.length->h.t.get X=some (xG G t s 16)->X<h.next->0<=t->t<64->ws[bs+1]?=some y->0<=y->y<=1000->
 Does call 104 [.ptr X 0] h fun v h'=>v=.tup [.int .u8 16,.bool true]∧PostRG M W bs nb G X (xG G t s 0) (gZ (nu.set s 1)) lv (ws.set (bs+1) (y+1)) (l++[⟨t,((bs+1:Nat):Int),3,y,y+1,false⟩]) h h'
def PostSR(M W n bs:Nat)(nu:List Int)(t:Int)(s X:Nat)(rk:RK)(d:Nat)(lv:AV)(ws:List Int)(l:List AccT)(h:H)(v:AV)(h':H):Prop:=
 v=.tup [.int .u8 (stK rk.tag bs s t d ws l).1,.bool (stK rk.tag bs s t d ws l).2.1]∧∃lv',RMemL h' M W lv' (stK rk.tag bs s t d ws l).2.2.1 (stK rk.tag bs s t d ws l).2.2.2∧PenB h' M n bs nu t s X rk (d+1)∧(∀b,own lv'=some b->own lv=some b∨h.next<=b)∧Tch (fun b=>memS M W lv b∨rkM rk b∨b=X) h h'
theorem stepPB{call:CallE}(fz:F102z call)(fa:F102a call)(ez:F103z call)(ea:F103a call)(eb:F103b call)(gz:F104z call)(ga:F104a call)(gb:F104b call)
 {h:H} {M W n bs:Nat} {nu:List Int} {t:Int} {s X:Nat} {rk:RK} {d:Nat} {lv:AV} {ws:List Int} {l:List AccT} (m:PenB h M n bs nu t s X rk d) (mm:RMemL h M W lv ws l) (hl:l.length<=1000000) (wi:WInv rk.tag n bs ws 1000) (hn:n<=64) (t0:0<=t) (t1:t<64):
 Does call rk.st [.ptr X 0] h (PostSR M W n bs nu t s X rk d lv ws l h):=by
 obtain⟨e,lX,ns,hs,ln⟩:=m
 have sz:=wi.sz
 cases rk with
 |full G N=>
  cases d with
  |zero=>
   have hlt:bs+s<ws.length:=by have:=wi.l1 rfl;omega
   obtain⟨y,hy⟩:∃y,ws[bs+s]?=some y:=⟨_,List.getElem?_eq_getElem hlt⟩
   obtain⟨v,h',k1,rfl,lv',m1,f1,gX,lo,st⟩:=fa h M W n bs G N X nu lv ws l t s y e.1 mm hl sz hn hs e.2 lX t0 t1 hy
   refine⟨_,h',k1,rfl,lv',?_,⟨⟨f1,gX⟩,Nat.lt_of_lt_of_le lX st.next,ns,hs,ln⟩,fun b hb=>.inr (lo b hb),st⟩
   show RMemL h' M W lv' (ws.set (bs+s) 1) (l++[⟨t,((bs+s:Nat):Int),2,(ws[bs+s]?).getD 0,1,false⟩])
   rw[hy]
   exact m1
  |succ d=>exact⟨_,h,fz h X _ _ _ e.2,rfl,lv,mm,⟨e,lX,ns,hs,ln⟩,fun b hb=>.inl hb,Nat.le_refl _,fun b lb hb=>rfl⟩
 |each G N=>
  match d,e with
  |0,e=>
   have hlt:bs+(2*s+1)<ws.length:=by have:=wi.l2 rfl;omega
   obtain⟨y,hy⟩:∃y,ws[bs+(2*s+1)]?=some y:=⟨_,List.getElem?_eq_getElem hlt⟩
   obtain⟨v,h',k1,rfl,lv',m1,f1,gX,lo,st⟩:=ea h M W n bs G N X _ lv ws l t s y e.1 mm hl sz hn hs e.2 lX t0 t1 hy
   refine⟨_,h',k1,rfl,lv',?_,⟨⟨f1,gX⟩,Nat.lt_of_lt_of_le lX st.next,ns,hs,ln⟩,fun b hb=>.inr (lo b hb),st⟩
   show RMemL h' M W lv' (ws.set (bs+(2*s+1)) 0) (l++[⟨t,((bs+(2*s+1):Nat):Int),2,(ws[bs+(2*s+1)]?).getD 0,0,false⟩])
   rw[hy]
   exact m1
  |1,e=>
   have hlt:bs+2*s<ws.length:=by have:=wi.l2 rfl;omega
   obtain⟨y,hy⟩:∃y,ws[bs+2*s]?=some y:=⟨_,List.getElem?_eq_getElem hlt⟩
   obtain⟨v,h',k1,rfl,lv',m1,f1,gX,lo,st⟩:=eb h M W n bs G N X nu lv ws l t s y e.1 mm hl sz hn hs e.2 lX t0 t1 hy
   refine⟨_,h',k1,rfl,lv',?_,⟨⟨f1,gX⟩,Nat.lt_of_lt_of_le lX st.next,ns,hs,ln⟩,fun b hb=>.inr (lo b hb),st⟩
   show RMemL h' M W lv' (ws.set (bs+2*s) 1) (l++[⟨t,((bs+2*s:Nat):Int),2,(ws[bs+2*s]?).getD 0,1,false⟩])
   rw[hy]
   exact m1
  |d+2,e=>exact⟨_,h,ez h X _ _ _ e.2,rfl,lv,mm,⟨e,lX,ns,hs,ln⟩,fun b hb=>.inl hb,Nat.le_refl _,fun b lb hb=>rfl⟩
 |gate G nb=>
  obtain⟨w0,x,hx,x0,x1⟩:=(show RK.tag (.gate G nb)=3->_ from wi.l3) rfl
  have hs64:s<64:=by omega
  match d,e with
  |0,e=>
   have hsl:((gZ nu).set s (true,false))[s]?=some (true,false):=by rw[List.getElem?_set_self (by unfold gZ;rw[List.length_map,List.length_range];exact hs64)]
   obtain⟨v,h',k1,rfl,lv',m1,f1,gX,lo,st⟩:=ga h M W bs nb G X _ lv ws l t s _ _ e.1 mm hl (by omega) hs64 hsl e.2 lX t0 t1 w0
   exact⟨_,h',k1,rfl,lv',m1,⟨⟨f1,gX⟩,Nat.lt_of_lt_of_le lX st.next,ns,hs,ln⟩,fun b hb=>.inr (lo b hb),st⟩
  |1,e=>
   obtain⟨v,h',k1,rfl,lv',m1,f1,gX,lo,st⟩:=gb h M W bs nb G X nu lv ws l t s x e.1 mm hl (by omega) hs64 (by omega) e.2 lX t0 t1 hx x0 x1
   refine⟨_,h',k1,rfl,lv',?_,⟨⟨f1,gX⟩,Nat.lt_of_lt_of_le lX st.next,ns,hs,ln⟩,fun b hb=>.inr (lo b hb),st⟩
   show RMemL h' M W lv' (ws.set (bs+1) ((ws[bs+1]?).getD 0+1)) (l++[⟨t,((bs+1:Nat):Int),3,(ws[bs+1]?).getD 0,(ws[bs+1]?).getD 0+1,false⟩])
   rw[hx]
   exact m1
  |d+2,e=>exact⟨_,h,gz h X _ _ _ e.2,rfl,lv,mm,⟨e,lX,ns,hs,ln⟩,fun b hb=>.inl hb,Nat.le_refl _,fun b lb hb=>rfl⟩
@[go_sem]def c179:CF:=⟨1,(Sq [v 2 0] (Qq (Sq [a 3 0,u 4 218 3,a 5 4,s 6 5 0,qi 7 5 6,M 8 5 4 7,L 9 5 8,r 10 5 9] (Kq 10 [v 2 0] .skip)) (Rq [v 2 17]))),[.tmp 2]⟩
@[go_sem]def c180:CF:=⟨1,(Sq [v 2 0] (Qq (Sq [a 3 0,u 4 219 3] (Kq 4 [v 2 0] .skip)) (Rq [a 5 0,m 6 5,d 7 6 6,i 8 7,a 2 8]))),[.tmp 2]⟩
@[go_sem]def c181:CF:=⟨1,(Sq [v 2 0] (Qq (Sq [a 3 0,u 4 220 3] (Kq 4 [v 2 0] .skip)) (Rq [a 5 0,m 6 5,d 7 5 6,i 8 7,a 2 8]))),[.tmp 2]⟩
@[go_sem]def c101:CF:=⟨1,(Sq [v 2 0] (Qq (Sq [a 3 0,u 4 104 3] (Kq 4 [v 2 0] .skip)) (Qq (.drw ⟨[([g 0 0,n 1 5 0,j 2 6 1 0,k 3 7 2,g 5 0,n 6 10 5,j 7 11 6 1,k 8 12 7,g 10 0,n 11 15 10,j 12 16 11 2,k 13 17 12,g 15 0,n 16 20 15,j 17 21 16 3,k 18 22 17,g 20 0,n 21 25 20,j 22 26 21 4,k 23 27 22,g 25 0,n 26 30 25,j 27 31 26 5,k 28 32 27],some (qg 4 8 3 176)),([],some (qg 9 13 8 177)),([],some (qg 14 18 13 178)),([],some (qg 19 23 18 179)),([],some (qg 24 28 23 180)),([],some (qg 29 33 28 181)),([⟨30,[(9,some 4),(14,some 9),(19,some 14),(24,some 19),(29,some 24),(34,some 29)],none,.p (.mm true (.t 9) [.t 14,.t 19,.t 24,.t 29,.t 34])⟩,y 31 35 30],none)],[(0,5),(1,6),(2,7),(3,8),(4,9),(5,10),(6,11),(7,12),(8,13),(9,14),(10,15),(11,16),(12,17),(13,18),(14,19),(15,20),(16,21),(17,22),(18,23),(19,24),(20,25),(21,26),(22,27),(23,28),(24,29),(25,30),(26,31),(27,32),(28,33),(29,34),(30,35),(31,2)],[(⟨8,[(12,(some 7))],none,.r (.ld none (.t 12))⟩,[1]),(⟨13,[(17,(some 12))],none,.r (.ld none (.t 17))⟩,[1,2]),(⟨18,[(22,(some 17))],none,.r (.ld none (.t 22))⟩,[1,2,3]),(⟨23,[(27,(some 22))],none,.r (.ld none (.t 27))⟩,[1,2,3,4]),(⟨28,[(32,(some 27))],none,.r (.ld none (.t 32))⟩,[1,2,3,4,5])]⟩) .ret))),[.tmp 2]⟩
@[go_sem]def c31:CF:=⟨1,(Sq [v 2 0] (Qq (Sq [a 3 0,u 4 57 3] (Kq 4 [v 2 0] .skip)) (Rq [a 5 0,m 6 5,d 7 1 6,i 8 7,q 9 101 8,a 2 9]))),[.tmp 2]⟩
@[go_sem]def c33:CF:=⟨1,(Sq [v 2 0,G 3] (Qq (Sq [a 4 0,u 5 104 4] (Kq 5 [v 2 0,G 3] .skip)) (Qq (.block 0 (Sq [a 7 0,m 8 7,d 9 0 8,i 10 9,qr 11 215 10,a 6 11] (Kq 6 [a 12 0,m 13 12,d 14 0 13,i 15 14,q 16 102 15,o 17 16 0,o 18 16 1,a 2 17,a 3 18] (Sq [a 20 0,m 21 20,d 22 1 21,i 23 22,qr 24 216 23,a 19 24] (Kq 19 [a 25 0,m 26 25,d 27 1 26,i 28 27,q 29 103 28,o 30 29 0,o 31 29 1,a 2 30,a 3 31] (Sq [a 33 0,m 34 33,d 35 2 34,i 36 35,qr 37 217 36,a 32 37] (Kq 32 [a 38 0,m 39 38,d 40 2 39,i 41 40,q 42 104 41,o 43 42 0,o 44 42 1,a 2 43,a 3 44] (Sq [a 46 0,m 47 46,d 48 3 47,i 49 48,qr 50 218 49,a 45 50] (Kq 45 [a 51 0,m 52 51,d 53 3 52,i 54 53,q 55 105 54,o 56 55 0,o 57 55 1,a 2 56,a 3 57] (Sq [a 59 0,m 60 59,d 61 4 60,i 62 61,qr 63 219 62,a 58 63] (Kq 58 [a 64 0,m 65 64,d 66 4 65,i 67 66,q 68 106 67,o 69 68 0,o 70 68 1,a 2 69,a 3 70] .skip))))))))))) (Rq [a 71 0,m 72 71,d 73 5 72,i 74 73,q 75 107 74,o 76 75 0,o 77 75 1,a 2 76,a 3 77])))),[.tmp 2,.tmp 3]⟩
@[go_sem]def c28:CF:=⟨4,(Sq [p 8,b 9 0] (Qq (Sq [a 12 0,u 13 46 12] (Kq 13 [p 8,b 9 1] .skip)) (Qq (Sq [a 14 1,q 15 34 14,a 16 15,B 17 16 2,qy 18 16 3 17 0,B 19 16 18,s 20 19 2,s 21 19 0,qi 22 19 21,M 23 19 1 22,L 24 19 23,qw 25 19 3 20 24,zB 26 16 19 25,O 27 16 26] (Kq 27 [p 8,b 9 3] .skip)) (Sq [⟨some 28,none,.p (.build [.nilp,.nilp,.nilp,.nilp,.nilp,.nilp] [])⟩,w 29 222 28,a 10 29] (Sq [b 11 0] (Qq (Sq [a 30 0,m 31 30,d 32 0 31,i 33 32] (.block 0 (Sq [J 49 5 33 1,a 48 49] (Cq 48 (Oq [a 51 10,a 52 0,m 53 52,d 54 2 53,i 55 54,a 56 1,a 57 2,a 58 3,qv 59 97 55 56 57 58,a 50 59,o 60 50 0,o 61 50 1,m 62 51,d 63 0 62,t 1 63 60,a 11 61]) (Sq [J 65 5 33 2,a 64 65] (Cq 64 (Oq [a 67 10,a 68 0,m 69 68,d 70 3 69,i 71 70,a 72 1,a 73 2,a 74 3,qv 75 98 71 72 73 74,a 66 75,o 76 66 0,o 77 66 1,m 78 67,d 79 1 78,t 1 79 76,a 11 77]) (Oq [a 35 10,a 36 0,m 37 36,d 38 4 37,i 39 38,a 40 1,a 41 2,a 42 3,qv 43 99 39 40 41 42,a 34 43,o 44 34 0,o 45 34 1,m 46 35,d 47 2 46,t 1 47 44,a 11 45]))))))) (Qq (Sq [a 80 11,z 81 54 80 0] (Kq 81 [a 82 11,p 8,a 9 82] .skip)) (Rq [a 83 10,a 8 83,b 9 0])))))))),[.tmp 8,.tmp 9]⟩
@[go_sem]def c9:CF:=⟨4,(Sq [p 8,b 9 0] (Qq (Sq [a 12 0,u 13 31 12] (Kq 13 [p 8,b 9 1] .skip)) (Sq [a 15 0,m 16 15,d 17 4 16,i 18 17,a 19 1,a 20 2,a 21 3,qv 22 28 18 19 20 21,a 14 22,o 23 14 0,o 24 14 1,a 10 23,a 11 24] (Qq (Sq [a 25 11,z 26 54 25 0] (Kq 26 [a 27 11,p 8,a 9 27] .skip)) (Sq [a 28 0,m 29 28,d 30 9 29,i 31 30,a 32 2,a 33 3,E 34 1 31 32,t 1 34 33] (Rq [a 35 0,a 36 10,a 37 1,a 38 3,⟨some 39,none,.p (.build [.nilp,.nilp,iz,iz,uz,fz] [(0,1,.t 35),(1,1,.t 36),(2,1,.t 37),(3,1,.t 38)])⟩,w 40 108 39,a 8 40,b 9 0])))))),[.tmp 8,.tmp 9]⟩
@[go_sem]def c11:CF:=⟨1,(Sq [v 2 0,G 3] (Qq (Sq [a 6 0,q 7 31 6,J 8 5 7 0] (Kq 8 [v 2 0,G 3] .skip)) (Qq (Sq [a 9 0,m 10 9,d 11 4 10,i 12 11,⟨some 13,none,.p (.bin .neq 51 false true (.t 12) (.c (.int .u64 0)))⟩,a 14 13,B 15 14 0,qm 16 14 15,W 17 14 5 16,Y 18 14 17,⟨some 19,some (14,true),.p (.un .not (.t 18))⟩,O 20 14 19] (Cq 20 (.drw ⟨[([g 0 0,n 1 21 0,j 2 22 1 0,k 3 23 2,g 4 0,n 5 25 4,j 6 26 5 2,k 7 27 6,g 8 0,n 9 29 8,j 10 30 9 4,k 11 31 10],some (zo 12 24 3 28 7 32 11 32 3)),([],none)],[(0,21),(1,22),(2,23),(3,24),(4,25),(5,26),(6,27),(7,28),(8,29),(9,30),(10,31),(11,32),(12,33)],[]⟩) .skip)) (Sq [a 34 0,m 35 34,d 36 5 35,qE 1 36] (Sq [a 38 0,m 39 38,d 40 1 39,i 41 40,q 42 33 41,a 37 42,o 43 37 0,o 44 37 1,a 4 43,a 5 44] (Qq (Sq [a 45 5,a 46 45,B 47 46 0,qm 48 46 47,W 49 46 4 48,Y 50 46 49,⟨some 51,some (46,true),.p (.bin .neq 51 false true (.t 50) (.c (.int .u64 0)))⟩,O 52 46 51] (Cq 52 (.drw ⟨[([g 0 0,n 1 53 0,j 2 54 1 0,k 3 55 2,g 4 0,n 5 57 4,j 6 58 5 2,k 7 59 6,g 8 0,n 9 61 8,j 10 62 9 4,k 11 63 10],some (zo 12 56 3 60 7 64 11 32 4)),([],none)],[(0,53),(1,54),(2,55),(3,56),(4,57),(5,58),(6,59),(7,60),(8,61),(9,62),(10,63),(11,64),(12,65)],[]⟩) .skip)) (Qq (Sq [a 66 5,a 67 66,B 68 67 0,qm 69 67 68,W 70 67 4 69,Y 71 67 70,⟨some 72,some (67,true),.p (.bin .eql 51 false true (.t 71) (.c (.int .u64 0)))⟩,O 73 67 72] (Cq 73 (.drw ⟨[([g 0 0,n 1 74 0,j 2 75 1 0,k 3 76 2,g 4 0,n 5 78 4,j 6 79 5 2,k 7 80 6,g 8 0,n 9 82 8,j 10 83 9 3,k 11 84 10,zc 12 85 11],some (zo 13 77 3 81 7 86 12 32 1)),([],none)],[(0,74),(1,75),(2,76),(3,77),(4,78),(5,79),(6,80),(7,81),(8,82),(9,83),(10,84),(11,85),(12,86),(13,87)],[]⟩) .skip)) (Rq [a 88 4,a 89 5,a 2 88,a 3 89])))))))),[.tmp 2,.tmp 3]⟩
def F97(call:CallE):Prop:=∀h M (n bs:Nat) G N nu (t:Int) (s:Nat) (x:Int),TriE h M n bs G N 362 (tZ nu)->0<=t->t<64->nu[s]?=some x->(x=0∨x=1)->Does call 97 [.ptr G 0,.int .i64 t,.int .i64 (s:Int),.int .i64 0] h (PostET M n bs G N 362 (xT G t s false) nu s x t h)
def F98(call:CallE):Prop:=∀h M (n bs:Nat) G N nu (t:Int) (s:Nat) (x:Int),TriE h M n bs G N 368 (tZ nu)->0<=t->t<64->nu[s]?=some x->(x=0∨x=1)->Does call 98 [.ptr G 0,.int .i64 t,.int .i64 (s:Int),.int .i64 0] h (PostET M n bs G N 368 (xU G t s 14) nu s x t h)
def F99(call:CallE):Prop:=∀h M bs nb G nu (t:Int) (s:Nat) (x:Int),GatR h M bs nb G (gZ nu)->0<=t->t<64->s<64->nu[s]?=some x->(x=0∨x=1)->Does call 99 [.ptr G 0,.int .i64 t,.int .i64 (s:Int),.int .i64 0] h (PostEG M bs nb G nu s x t h)
def PostRW(M n bs:Nat)(rk:RK)(nu:List Int)(s:Nat)(x t:Int)(h:H)(v:AV)(h':H):Prop:=
 (x=1∧v=.tup [.nilp,.int .i64 8]∧h'=h)∨(x=0∧∃X,v=.tup [.ptr X 0,.int .i64 0]∧h.next<=X∧PenB h' M n bs nu t s X rk 0∧Tch (rkM rk) h h')
theorem rawEB{call:CallE}(fa:F97 call)(fb:F98 call)(fc:F99 call){h:H}{M n bs:Nat}{rk:RK}{nu:List Int}{t:Int}{s:Nat}{x:Int}(m:EngB h M n bs nu rk)(hn:n<=64)(t0:0<=t)(t1:t<64)(hx:nu[s]?=some x)(x1:x=0∨x=1):
 Does call rk.en [.ptr rk.G 0,.int .i64 t,.int .i64 (s:Int),.int .i64 0] h (PostRW M n bs rk nu s x t h):=by
 have hsl:s<nu.length:=(List.getElem?_eq_some_iff.1 hx).1
 cases rk with
 |full G N=>
  have m':TriE h M n bs G N 362 (tZ nu):=m
  have ln:=m'.ln
  unfold tZ at ln
  rw[List.length_map]at ln
  obtain⟨v,h',k,p⟩:=fa h M n bs G N nu t s x m' t0 t1 hx x1
  refine⟨v,h',k,?_⟩
  rcases p with p|⟨rfl,X,rfl,lo,lX,gX,e,st⟩
  ·exact .inl p
  ·exact .inr ⟨rfl,X,rfl,lo,⟨⟨e,gX⟩,lX,hx,by omega,ln⟩,st⟩
 |each G N=>
  have m':TriE h M n bs G N 368 (tZ nu):=m
  have ln:=m'.ln
  unfold tZ at ln
  rw[List.length_map]at ln
  obtain⟨v,h',k,p⟩:=fb h M n bs G N nu t s x m' t0 t1 hx x1
  refine⟨v,h',k,?_⟩
  rcases p with p|⟨rfl,X,rfl,lo,lX,gX,e,st⟩
  ·exact .inl p
  ·exact .inr ⟨rfl,X,rfl,lo,⟨⟨e,gX⟩,lX,hx,by omega,ln⟩,st⟩
 |gate G nb=>
  obtain⟨ln,m'⟩:=m
  obtain⟨v,h',k,p⟩:=fc h M bs nb G nu t s x m' t0 t1 (by omega) hx x1
  refine⟨v,h',k,?_⟩
  rcases p with p|⟨rfl,X,rfl,lo,lX,gX,e,st⟩
  ·exact .inl p
  ·exact .inr ⟨rfl,X,rfl,lo,⟨⟨e,gX⟩,lX,hx,by omega,ln⟩,st⟩
def FRw(call:CallE):Prop:=∀h M n bs rk nu (t:Int) (s:Nat) (x:Int),EngB h M n bs nu rk->n<=64->0<=t->t<64->nu[s]?=some x->(x=0∨x=1)->Does call rk.en [.ptr rk.G 0,.int .i64 t,.int .i64 (s:Int),.int .i64 0] h (PostRW M n bs rk nu s x t h)
def RK.row(rk:RK)(n:Nat):AO:=match rk with
 | .full G _=>rowL [.int .u8 1,.int .i64 (n:Int),.ptr G 0,.nilp,.nilp] 214
 | .each G _=>rowL [.int .u8 2,.int .i64 (n:Int),.nilp,.ptr G 0,.nilp] 214
 | .gate G _=>rowL [.int .u8 3,.int .i64 (n:Int),.nilp,.nilp,.ptr G 0] 214
def RK.run(rk:RK)(X:Nat):AO:=match rk with
 | .full _ _=>rowL [.ptr X 0,.nilp,.nilp,.nilp,.nilp,.nilp] 222
 | .each _ _=>rowL [.nilp,.ptr X 0,.nilp,.nilp,.nilp,.nilp] 222
 | .gate _ _=>rowL [.nilp,.nilp,.ptr X 0,.nilp,.nilp,.nilp] 222
def PostRQ(M n bs:Nat)(rk:RK)(nu:List Int)(s:Nat)(x t:Int)(h:H)(v:AV)(h':H):Prop:=
 (x=1∧v=.tup [.nilp,.int .i64 8]∧StepN h h')∨(x=0∧∃X Q,v=.tup [.ptr Q 0,.int .i64 0]∧h.next<=X∧h.next<=Q∧Q<h'.next∧h'.t.get Q=some (rk.run X)∧PenB h' M n bs nu t s X rk 0∧Tch (rkM rk) h h')
theorem PenB.lt{h:H}{M n bs:Nat}{nu:List Int}{t:Int}{s X:Nat}{rk:RK}{d:Nat}(m:PenB h M n bs nu t s X rk d):X<h.next:=m.lX
theorem w28(h34:F34 call)(hRw:FRw call){h:H}{M R n bs:Nat}{rk:RK}{nu:List Int}{t:Int}{s:Nat}{x:Int}(gR:h.t.get R=some (rk.row n))(lR:R<h.next)(m:EngB h M n bs nu rk)(hn:n<=64)(t0:0<=t)(t1:t<64)(hs:s<n)(hx:nu[s]?=some x)(x1:x=0∨x=1):
 WF P call c28 [.ptr R 0,.int .i64 t,.int .i64 (s:Int),.int .i64 0] h (PostRQ M n bs rk nu s x t h):=by
 have k1:=h34 h t
 have e:0<=t∧t<64:=⟨t0,t1⟩
 have e1:¬(s:Int)<0:=by omega
 have e2:¬(n:Int)<=(s:Int):=by omega
 have e3:(s:Int)<(n:Int):=by omega
 have R1:¬R=h.next:=by omega
 have st0:=StepN.new h (.row (putList 0 [.nilp,.nilp,.nilp,.nilp,.nilp,.nilp] T.e) 6 222)
 have hr:=hRw _ M n bs rk nu t s x (m.step st0) hn t0 t1 hx x1
 have fin:∀(h1:H) (o:AO) X,Tch (rkM rk) ⟨h.next+1,h.t.set h.next (.row (putList 0 [.nilp,.nilp,.nilp,.nilp,.nilp,.nilp] T.e) 6 222)⟩ h1->h.next+1<=X->PenB h1 M n bs nu t s X rk 0->o=rk.run X->PostRQ M n bs rk nu s 0 t h (.tup [.ptr h.next 0,.int .i64 0]) ⟨h1.next,h1.t.set h.next o⟩:=fun h1 o X st lo p ho=>by
  have nx:h.next+1<=h1.next:=st.next
  refine .inr ⟨rfl,X,h.next,rfl,by omega,Nat.le_refl _,by show h.next<h1.next;omega,by simp[go_sem,ho],p.keep (Nat.le_refl _) fun b lb hb=>?_,by show h.next<=h1.next;omega,fun b lb hb=>?_⟩
  ·have q:¬b=h.next:=fun q=>by
        rcases hb with hb|hb
        ·have l2:b<h.next:=by
           cases rk with
           |full G N=>
            have m':TriE h M n bs G N 362 (tZ nu):=m
            exact m'.lt hb
           |each G N=>
            have m':TriE h M n bs G N 368 (tZ nu):=m
            exact m'.lt hb
           |gate G nb=>exact(show b=G from hb)▸m.2.lG
         omega
        ·omega
   simp only[go_sem,seval,q]
  ·have q:¬b=h.next:=by omega
   simp only[go_sem,seval,q]
   exact(st.old b (by show b<h.next+1;omega) hb).trans (st0.old b lb)
 cases rk with
 |full G N=>
  unfold RK.row at gR
  simp only[go_sem,seval,k1,e,e1,e2,e3,gR,R1]
  refine opt_by hr fun v1 h1 p1=>?_
  rcases p1 with⟨rfl,rfl,rfl⟩|⟨rfl,X,rfl,lo,p,st⟩
  ·simp only[go_sem,seval]
   exact .inl ⟨rfl,rfl,st0⟩
  ·have gQ:=st.old h.next (Nat.lt_succ_self _) fun q=>by
        have m':TriE h M n bs G N 362 (tZ nu):=m
        have:=m'.lN
        have q2:h.next=N:=q
        omega
   simp only[go_sem,seval]at gQ
   simp only[go_sem,seval,gQ]
   exact fin h1 _ X st lo p rfl
 |each G N=>
  unfold RK.row at gR
  simp only[go_sem,seval,k1,e,e1,e2,e3,gR,R1]
  refine opt_by hr fun v1 h1 p1=>?_
  rcases p1 with⟨rfl,rfl,rfl⟩|⟨rfl,X,rfl,lo,p,st⟩
  ·simp only[go_sem,seval]
   exact .inl ⟨rfl,rfl,st0⟩
  ·have gQ:=st.old h.next (Nat.lt_succ_self _) fun q=>by
        have m':TriE h M n bs G N 368 (tZ nu):=m
        have:=m'.lN
        have q2:h.next=N:=q
        omega
   simp only[go_sem,seval]at gQ
   simp only[go_sem,seval,gQ]
   exact fin h1 _ X st lo p rfl
 |gate G nb=>
  unfold RK.row at gR
  simp only[go_sem,seval,k1,e,e1,e2,e3,gR,R1]
  refine opt_by hr fun v1 h1 p1=>?_
  rcases p1 with⟨rfl,rfl,rfl⟩|⟨rfl,X,rfl,lo,p,st⟩
  ·simp only[go_sem,seval]
   exact .inl ⟨rfl,rfl,st0⟩
  ·have gQ:=st.old h.next (Nat.lt_succ_self _) fun q=>by
        have:=m.2.lG
        have q2:h.next=G:=q
        omega
   simp only[go_sem,seval]at gQ
   simp only[go_sem,seval,gQ]
   exact fin h1 _ X st lo p rfl
def F28(call:CallE):Prop:=∀h M R (n bs:Nat) rk nu (t:Int) (s:Nat) (x:Int),h.t.get R=some (rk.row n)->R<h.next->EngB h M n bs nu rk->n<=64->0<=t->t<64->s<n->nu[s]?=some x->(x=0∨x=1)->Does call 28 [.ptr R 0,.int .i64 t,.int .i64 (s:Int),.int .i64 0] h (PostRQ M n bs rk nu s x t h)
theorem w176n{h:H}:WF P call c176 [.nilp] h fun v h'=>v=.int .u8 0∧h'=h:=by
 simp only[go_sem,seval]
theorem w177n{h:H}:WF P call c177 [.nilp] h fun v h'=>v=.int .u8 0∧h'=h:=by
 simp only[go_sem,seval]
theorem w178n{h:H}:WF P call c178 [.nilp] h fun v h'=>v=.int .u8 0∧h'=h:=by
 simp only[go_sem,seval]
theorem w179{h:H}:WF P call c179 [.nilp] h fun v h'=>v=.int .u8 0∧h'=h:=by
 simp only[go_sem,seval]
theorem w180{h:H}:WF P call c180 [.nilp] h fun v h'=>v=.int .u8 0∧h'=h:=by
 simp only[go_sem,seval]
theorem w181{h:H}:WF P call c181 [.nilp] h fun v h'=>v=.int .u8 0∧h'=h:=by
 simp only[go_sem,seval]
def FNil(call:CallE)(f:FuncId):Prop:=∀h,call f [.nilp] h=some (.int .u8 0,h)
def pcK(tag d:Nat):Int:=match tag,d with
 |1,0=>13
 |2,0=>14
 |2,1=>13
 |3,0=>15
 |3,1=>16
 |_,_=>0
theorem mm1{pc:Int}(hp:pc=0∨pc=13∨pc=14∨pc=15∨pc=16):mmA true (.int .u8 pc) [.int .u8 0,.int .u8 0,.int .u8 0,.int .u8 0,.int .u8 0]=some (.int .u8 pc)∧mmA true (.int .u8 0) [.int .u8 pc,.int .u8 0,.int .u8 0,.int .u8 0,.int .u8 0]=some (.int .u8 pc)∧mmA true (.int .u8 0) [.int .u8 0,.int .u8 pc,.int .u8 0,.int .u8 0,.int .u8 0]=some (.int .u8 pc):=by
 rcases hp with rfl|rfl|rfl|rfl|rfl<;>exact⟨rfl,rfl,rfl⟩
theorem pcK_in(rk:RK)(d:Nat):pcK rk.tag d=0∨pcK rk.tag d=13∨pcK rk.tag d=14∨pcK rk.tag d=15∨pcK rk.tag d=16:=by
 cases rk with
 |full G N=>
  cases d with
  |zero=>exact .inr (.inl rfl)
  |succ d=>exact .inl rfl
 |each G N=>
  match d with
  |0=>exact .inr (.inr (.inl rfl))
  |1=>exact .inr (.inl rfl)
  |d+2=>exact .inl rfl
 |gate G nb=>
  match d with
  |0=>exact .inr (.inr (.inr (.inl rfl)))
  |1=>exact .inr (.inr (.inr (.inr rfl)))
  |d+2=>exact .inl rfl
def RK.nx:RK->FuncId
 | .full _ _=>176
 | .each _ _=>177
 | .gate _ _=>178
theorem nextPB{call:CallE}(h176:F176 call)(h177:F177 call)(h178:F178 call){h:H}{M n bs:Nat}{nu:List Int}{t:Int}{s X:Nat}{rk:RK}{d:Nat}(m:PenB h M n bs nu t s X rk d):call rk.nx [.ptr X 0] h=some (.int .u8 (pcK rk.tag d),h):=by
 obtain⟨e,lX,ns,hs,ln⟩:=m
 cases rk with
 |full G N=>
  cases d with
  |zero=>exact h176 h X _ _ _ false e.2
  |succ d=>exact h176 h X _ _ _ true e.2
 |each G N=>
  match d,e with
  |0,e=>exact h177 h X _ _ _ _ 14 e.2
  |1,e=>exact h177 h X _ _ _ _ 13 e.2
  |d+2,e=>exact h177 h X _ _ _ _ 0 e.2
 |gate G nb=>
  match d,e with
  |0,e=>exact h178 h X _ _ _ 15 e.2
  |1,e=>exact h178 h X _ _ _ 16 e.2
  |d+2,e=>exact h178 h X _ _ _ 0 e.2
def pcIn(pc:Int):Prop:=pc=0∨pc=13∨pc=14∨pc=15∨pc=16
def NxC(h:H)(X:Nat)(rk:RK)(pc:Int):Prop:=∀call:CallE,F176 call->F177 call->F178 call->call rk.nx [.ptr X 0] h=some (.int .u8 pc,h)
theorem w101(n176:FNil call 176)(n177:FNil call 177)(n178:FNil call 178)(n179:FNil call 179)(n180:FNil call 180)(n181:FNil call 181){h:H}{X Q:Nat}{rk:RK}{pc:Int}(gQ:h.t.get Q=some (rk.run X))(hp:pcIn pc)(k:call rk.nx [.ptr X 0] h=some (.int .u8 pc,h)):
 WF P call c101 [.ptr Q 0] h fun v h'=>v=.int .u8 pc∧h'=h:=by
 have k6:=n176 h
 have k7:=n177 h
 have k8:=n178 h
 have k9:=n179 h
 have k0:=n180 h
 have k1:=n181 h
 obtain⟨m1,m2,m3⟩:=mm1 hp
 cases rk with
 |full G N=>
  unfold RK.run at gQ
  unfold RK.nx at k
  simp only[go_sem,seval,gQ,k,k7,k8,k9,k0,k1,m1]
 |each G N=>
  unfold RK.run at gQ
  unfold RK.nx at k
  simp only[go_sem,seval,gQ,k,k6,k8,k9,k0,k1,m2]
 |gate G nb=>
  unfold RK.run at gQ
  unfold RK.nx at k
  simp only[go_sem,seval,gQ,k,k6,k7,k9,k0,k1,m3]
def F101(call:CallE):Prop:=∀h X Q rk pc,h.t.get Q=some (RK.run rk X)->pcIn pc->NxC h X rk pc->call 101 [.ptr Q 0] h=some (.int .u8 pc,h)
theorem w31(h101:F101 call){h:H}{X Q Z:Nat}{rk:RK}{pc:Int}{a b c e f:AV}(gZ:h.t.get Z=some (rowL [a,.ptr Q 0,b,c,e,f] 108))(gQ:h.t.get Q=some (rk.run X))(hp:pcIn pc)(k:NxC h X rk pc):
 WF P call c31 [.ptr Z 0] h fun v h'=>v=.int .u8 pc∧h'=h:=by
 have k1:=h101 h X Q rk pc gQ hp k
 simp only[go_sem,seval,gZ,k1]
def F31(call:CallE):Prop:=∀h X Q Z rk pc a b c e f,h.t.get Z=some (rowL [a,.ptr Q 0,b,c,e,f] 108)->h.t.get Q=some (RK.run rk X)->pcIn pc->NxC h X rk pc->call 31 [.ptr Z 0] h=some (.int .u8 pc,h)
def FSr(call:CallE):Prop:=∀h M W n bs nu (t:Int) s X rk d lv ws l,PenB h M n bs nu t s X rk d->RMemL h M W lv ws l->l.length<=1000000->WInv rk.tag n bs ws 1000->n<=64->0<=t->t<64->Does call rk.st [.ptr X 0] h (PostSR M W n bs nu t s X rk d lv ws l h)
theorem w33(hSr:FSr call){h:H}{M W n bs:Nat}{nu:List Int}{t:Int}{s X Q:Nat}{rk:RK}{d:Nat}{lv:AV}{ws:List Int}{l:List AccT}(gQ:h.t.get Q=some (rk.run X))(m:PenB h M n bs nu t s X rk d)(mm:RMemL h M W lv ws l)(hl:l.length<=1000000)(wi:WInv rk.tag n bs ws 1000)(hn:n<=64)(t0:0<=t)(t1:t<64):
 WF P call c33 [.ptr Q 0] h (PostSR M W n bs nu t s X rk d lv ws l h):=by
 have hr:=hSr h M W n bs nu t s X rk d lv ws l m mm hl wi hn t0 t1
 cases rk with
 |full G N=>
  unfold RK.run at gQ
  simp only[go_sem,seval,gQ]
  refine opt_by hr fun v1 h1 p1=>?_
  obtain⟨rfl,p1⟩:=p1
  simp only[go_sem,seval]
  exact⟨rfl,p1⟩
 |each G N=>
  unfold RK.run at gQ
  simp only[go_sem,seval,gQ]
  refine opt_by hr fun v1 h1 p1=>?_
  obtain⟨rfl,p1⟩:=p1
  simp only[go_sem,seval]
  exact⟨rfl,p1⟩
 |gate G nb=>
  unfold RK.run at gQ
  simp only[go_sem,seval,gQ]
  refine opt_by hr fun v1 h1 p1=>?_
  obtain⟨rfl,p1⟩:=p1
  simp only[go_sem,seval]
  exact⟨rfl,p1⟩
def F33(call:CallE):Prop:=∀h M W n bs nu (t:Int) s X Q rk d lv ws l,h.t.get Q=some (RK.run rk X)->PenB h M n bs nu t s X rk d->RMemL h M W lv ws l->l.length<=1000000->WInv rk.tag n bs ws 1000->n<=64->0<=t->t<64->Does call 33 [.ptr Q 0] h (PostSR M W n bs nu t s X rk d lv ws l h)
structure AdB where
 B:Nat
 L:Nat
 M:Nat
 Po:Nat
 To:Nat
 R:Nat
 W:Nat
 V:Nat
 K:Nat
 C:Nat
 q:Nat
structure SB(h:H)(a:AdB)(rk:RK)(n:Nat)(lv ev:AV)(ws:List Int)(l:List AccT)(es:List EvT):Prop where
 mm:RMemL h a.M a.W lv ws l
 gB:h.t.get a.B=some (rowL [.ptr a.L 0,.ptr a.M 0,.ptr a.Po 0,.ptr a.To 0,.ptr a.R 0,.int .i64 0,.bool false,.nils,ev,.sl a.V 0 n 1 (some n),.sl a.K 0 a.q 1 (some a.q),.sl a.C 0 a.q 1 (some a.q)] 49)
 oe:Own 4 231 h ev es.length (evL es)
 gV:∃cs:List AV,h.t.get a.V=some (.row (putList 0 cs T.e) n 3)∧cs.length=n
 gR:h.t.get a.R=some (rk.row n)
 lB:a.B<h.next
 lV:a.V<h.next
 lR:a.R<h.next
def sbF(a:AdB)(lv ev:AV)(b:Nat):Prop:=memS a.M a.W lv b∨b=a.B∨own ev=some b∨b=a.V∨b=a.R
theorem SB.keep{h h':H}{a:AdB}{rk:RK}{n:Nat}{lv ev:AV}{ws:List Int}{l:List AccT}{es:List EvT}(m:SB h a rk n lv ev ws l es)(hn:h.next<=h'.next)(k:∀b,b<h.next->sbF a lv ev b->h'.t.get b=h.t.get b):SB h' a rk n lv ev ws l es:=
 ⟨m.mm.keep hn fun b lb hb=>k b lb (.inl hb),(k _ m.lB (.inr (.inl rfl))).trans m.gB,m.oe.keep hn fun b hb=>k b (m.oe.lt hb) (.inr (.inr (.inl hb))),by obtain⟨cs,gV,hl⟩:=m.gV;exact⟨cs,(k _ m.lV (.inr (.inr (.inr (.inl rfl))))).trans gV,hl⟩,(k _ m.lR (.inr (.inr (.inr (.inr rfl))))).trans m.gR,Nat.lt_of_lt_of_le m.lB hn,Nat.lt_of_lt_of_le m.lV hn,Nat.lt_of_lt_of_le m.lR hn⟩
theorem SB.step{h h':H}{a:AdB}{rk:RK}{n:Nat}{lv ev:AV}{ws:List Int}{l:List AccT}{es:List EvT}(m:SB h a rk n lv ev ws l es)(s:StepN h h'):SB h' a rk n lv ev ws l es:=m.keep s.next fun b lb _=>s.old b lb
structure PY(h:H)(a:AdB)(n bs:Nat)(nu:List Int)(t:Int)(s X Q Z:Nat)(rk:RK)(d:Nat):Prop where
 p:PenB h a.M n bs nu t s X rk d
 gQ:h.t.get Q=some (rk.run X)
 gZ:∃b,h.t.get Z=some (rowL [.ptr a.B 0,.ptr Q 0,.int .i64 t,.int .i64 0,.int .u64 0,.bool b] 108)
 lQ:Q<h.next
 lZ:Z<h.next
theorem PY.keep{h h':H}{a:AdB}{n bs:Nat}{nu:List Int}{t:Int}{s X Q Z:Nat}{rk:RK}{d:Nat}(m:PY h a n bs nu t s X Q Z rk d)(hn:h.next<=h'.next)(k:∀b,b<h.next->rkF rk b∨b=X∨b=Q∨b=Z->h'.t.get b=h.t.get b):PY h' a n bs nu t s X Q Z rk d:=by
 obtain⟨b,gZ⟩:=m.gZ
 exact⟨m.p.keep hn fun b lb hb=>k b lb (hb.elim .inl fun q=>.inr (.inl q)),(k Q m.lQ (.inr (.inr (.inl rfl)))).trans m.gQ,⟨b,(k Z m.lZ (.inr (.inr (.inr rfl)))).trans gZ⟩,Nat.lt_of_lt_of_le m.lQ hn,Nat.lt_of_lt_of_le m.lZ hn⟩
theorem PY.step{h h':H}{a:AdB}{n bs:Nat}{nu:List Int}{t:Int}{s X Q Z:Nat}{rk:RK}{d:Nat}(m:PY h a n bs nu t s X Q Z rk d)(st:StepN h h'):PY h' a n bs nu t s X Q Z rk d:=m.keep st.next fun b lb _=>st.old b lb
theorem EngB.ty{h:H}{M n bs:Nat}{nu:List Int}{rk:RK}(m:EngB h M n bs nu rk){b:Nat}(hb:rkM rk b):(∃c k e,h.t.get b=some (.row c k e)∧(e=364∨e=375))∧b<h.next:=by
 cases rk with
 |full G N=>
  have m':TriE h M n bs G N 362 (tZ nu):=m
  obtain rfl:b=N:=hb
  exact⟨⟨_,_,_,m'.gN,.inl rfl⟩,m'.lN⟩
 |each G N=>
  have m':TriE h M n bs G N 368 (tZ nu):=m
  obtain rfl:b=N:=hb
  exact⟨⟨_,_,_,m'.gN,.inl rfl⟩,m'.lN⟩
 |gate G nb=>
  obtain rfl:b=G:=hb
  exact⟨⟨_,_,_,m.2.gG,.inr rfl⟩,m.2.lG⟩
theorem rkRow(rk:RK)(n:Nat):∃c k,rk.row n=.row c k 214:=by
 cases rk with
 |full G N=>exact⟨_,_,rfl⟩
 |each G N=>exact⟨_,_,rfl⟩
 |gate G nb=>exact⟨_,_,rfl⟩
theorem rkRun(rk:RK)(X:Nat):∃c k,rk.run X=.row c k 222:=by
 cases rk with
 |full G N=>exact⟨_,_,rfl⟩
 |each G N=>exact⟨_,_,rfl⟩
 |gate G nb=>exact⟨_,_,rfl⟩
theorem ty_ne{h:H}{b:Nat}{c c':T AV}{n n':Nat}{e e':TypeId}(g:h.t.get b=some (.row c n e))(g':h.t.get b=some (.row c' n' e')):e=e':=by
 rw[g]at g'
 simp at g'
 exact g'.2.2
theorem SB.ty{h:H}{a:AdB}{rk:RK}{n:Nat}{lv ev:AV}{ws:List Int}{l:List AccT}{es:List EvT}(m:SB h a rk n lv ev ws l es){b:Nat}(hb:sbF a lv ev b):∃c k e,h.t.get b=some (.row c k e)∧(e=154∨e=51∨e=296∨e=49∨e=231∨e=3∨e=214):=by
 rcases hb with(rfl|rfl|q)|rfl|q|rfl|rfl
 ·exact⟨_,_,_,m.mm.g,by simp⟩
 ·exact⟨_,_,_,m.mm.w,by simp⟩
 ·obtain⟨c,k,g⟩:=own_row m.mm.l q
  exact⟨_,_,_,g,by simp⟩
 ·exact⟨_,_,_,m.gB,by simp⟩
 ·obtain⟨c,k,g⟩:=own_row m.oe q
  exact⟨_,_,_,g,by simp⟩
 ·obtain⟨cs,g,_⟩:=m.gV
  exact⟨_,_,_,g,by simp⟩
 ·obtain⟨c,k,e⟩:=rkRow rk n
  exact⟨c,k,_,by rw[m.gR,e],by simp⟩
def Post9(a:AdB)(n bs:Nat)(rk:RK)(nu:List Int)(s:Nat)(x t:Int)(lv ev:AV)(ws:List Int)(l:List AccT)(es:List EvT)(h:H)(v:AV)(h':H):Prop:=
 (x=1∧v=.tup [.nilp,.int .i64 8]∧StepN h h')∨(x=0∧∃X Q Z,v=.tup [.ptr Z 0,.int .i64 0]∧h.next<=X∧h.next<=Q∧h.next<=Z∧SB h' a rk n lv ev ws l es∧PY h' a n bs nu t s X Q Z rk 0∧Tch (fun b=>rkM rk b∨b=a.V) h h')
theorem SB.setV{h:H}{a:AdB}{rk:RK}{n:Nat}{lv ev:AV}{ws:List Int}{l:List AccT}{es:List EvT}(m:SB h a rk n lv ev ws l es)(cs:List AV)(hl:cs.length=n):SB ⟨h.next,h.t.set a.V (.row (putList 0 cs T.e) n 3)⟩ a rk n lv ev ws l es∧(∀b,memS a.M a.W lv b∨b=a.B∨own ev=some b∨b=a.R->b≠a.V)∧(∀b,b≠a.V->(h.t.set a.V (.row (putList 0 cs T.e) n 3)).get b=h.t.get b)∧True:=by
 obtain⟨cs0,gV,hl0⟩:=m.gV
 have nV:∀b,memS a.M a.W lv b∨b=a.B∨own ev=some b∨b=a.R->b≠a.V:=fun b hb q=>by
  rw[q]at hb
  rcases hb with(hb|hb|hb)|hb|hb|hb
  ·have g:=m.mm.g;rw[←hb]at g;exact absurd (ty_ne g gV) (by decide)
  ·have g:=m.mm.w;rw[←hb]at g;exact absurd (ty_ne g gV) (by decide)
  ·obtain⟨c,k,g⟩:=own_row m.mm.l hb
   exact absurd (ty_ne g gV) (by decide)
  ·have g:=m.gB;rw[←hb]at g;exact absurd (ty_ne g gV) (by decide)
  ·obtain⟨c,k,g⟩:=own_row m.oe hb
   exact absurd (ty_ne g gV) (by decide)
  ·obtain⟨c,k,e⟩:=rkRow rk n
   have g:=m.gR;rw[←hb,e]at g;exact absurd (ty_ne g gV) (by decide)
 have kV:∀b,b≠a.V->(h.t.set a.V (.row (putList 0 cs T.e) n 3)).get b=h.t.get b:=fun b hb=>by
  simp only[go_sem,seval,hb]
 exact⟨⟨m.mm.keep (Nat.le_refl _) fun b lb hb=>kV b (nV b (.inl hb)),(kV _ (nV _ (.inr (.inl rfl)))).trans m.gB,m.oe.keep (Nat.le_refl _) fun b hb=>kV b (nV b (.inr (.inr (.inl hb)))),⟨cs,by simp[go_sem],hl⟩,(kV _ (nV _ (.inr (.inr (.inr rfl))))).trans m.gR,m.lB,m.lV,m.lR⟩,nV,kV,trivial⟩
theorem w9(h28:F28 call){h:H}{a:AdB}{n bs:Nat}{rk:RK}{nu:List Int}{t:Int}{s:Nat}{x:Int}{lv ev:AV}{ws:List Int}{l:List AccT}{es:List EvT}(sb:SB h a rk n lv ev ws l es)(m:EngB h a.M n bs nu rk)(hn:n<=64)(t0:0<=t)(t1:t<64)(hs:s<n)(hx:nu[s]?=some x)(x1:x=0∨x=1):
 WF P call c9 [.ptr a.B 0,.int .i64 t,.int .i64 (s:Int),.int .i64 0] h (Post9 a n bs rk nu s x t lv ev ws l es h):=by
 have gB:=sb.gB
 simp only[go_sem,seval,gB]
 refine opt_by (h28 h a.M a.R n bs rk nu t s x sb.gR sb.lR m hn t0 t1 hs hx x1) fun v1 h1 p1=>?_
 rcases p1 with⟨rfl,rfl,st⟩|⟨rfl,X,Q,rfl,lo,lo3,lQ,gQ,e,st⟩
 ·simp only[go_sem,seval]
  exact .inl ⟨rfl,rfl,st⟩
 ·have offk:∀b,sbF a lv ev b->¬rkM rk b:=fun b hb hm=>by
   obtain⟨⟨c,k,ty,g,o1⟩,_⟩:=m.ty hm
   obtain⟨c',k',ty',g',o2⟩:=sb.ty hb
   obtain rfl:=ty_ne g g'
   rcases o1 with rfl|rfl<;>revert o2<;>decide
  have sb1:=sb.keep st.next fun b lb hb=>st.old b lb (offk b hb)
  have gB1:=sb1.gB
  obtain⟨cs,gV1,hcs⟩:=sb1.gV
  have e2:(s:Int)<(n:Int):=by omega
  have hs2:s+1<=n:=hs
  have BV:¬a.B=a.V:=rowL_ne gB1 gV1 (by decide)
  have V1:¬a.V=h1.next:=by have:=sb1.lV;omega
  have Q1:¬Q=h1.next:=by omega
  simp only[go_sem,seval,gB1,e2,Nat.mul_one,gV1,hcs,hs,hs2,BV]
  obtain⟨sb2,nV,kV,stV⟩:=sb1.setV (cs.set s (.int .i64 0)) (by rw[List.length_set];exact hcs)
  have lV:=sb.lV
  have sN:=st.next
  have stN:=StepN.new (⟨h1.next,h1.t.set a.V (.row (putList 0 (cs.set s (.int .i64 0)) T.e) n 3)⟩:H) (.row (putList 0 [.ptr a.B 0,.ptr Q 0,.int .i64 t,.int .i64 0,.int .u64 0,.bool false] T.e) 6 108)
  have e':=(e.keep (h':=⟨h1.next,h1.t.set a.V (.row (putList 0 (cs.set s (.int .i64 0)) T.e) n 3)⟩) (Nat.le_refl _) fun b lb hb=>kV b fun q=>by
   obtain⟨c',k',e0,g,o⟩:=e.off hb
   rw[q]at g
   obtain rfl:=ty_ne g gV1
   revert o
   decide).step stN
  exact .inr ⟨rfl,X,Q,h1.next,rfl,lo,lo3,sN,sb2.step stN,⟨e',(stN.old Q lQ).trans ((kV Q (by omega)).trans gQ),⟨false,by simp only[go_sem,seval];rfl⟩,Nat.lt_succ_of_lt lQ,Nat.lt_succ_self _⟩,Nat.le_succ_of_le sN,fun b lb hb=>(stN.old b (by show b<h1.next;omega)).trans ((kV b fun q=>hb (.inr q)).trans (st.old b lb fun q=>hb (.inl q)))⟩
def F9(call:CallE):Prop:=∀h a (n bs:Nat) rk nu (t:Int) (s:Nat) (x:Int) lv ev ws l es,SB h a rk n lv ev ws l es->EngB h a.M n bs nu rk->n<=64->0<=t->t<64->s<n->nu[s]?=some x->(x=0∨x=1)->Does call 9 [.ptr a.B 0,.int .i64 t,.int .i64 (s:Int),.int .i64 0] h (Post9 a n bs rk nu s x t lv ev ws l es h)
def F32(call:CallE):Prop:=∀h B cs ev l (t k v:Int),h.t.get B=some (rowL cs 49)->B<h.next->cs.length=12->cs[5]?=some (.int .i64 0)->cs[8]?=some ev->Own 4 231 h ev l.length (evL l)->own ev≠some B->l.length<=1000000->Does call 32 [.ptr B 0,.int .i64 t,.int .u8 k,.int .u64 v] h fun v' h'=>v'=.tup []∧∃ev',h'.t.get B=some (rowL (cs.set 8 ev') 49)∧Own 4 231 h' ev' (l.length+1) (evL (l++[⟨0,t,k,v⟩]))∧own ev'≠some B∧(∀b,own ev'=some b->h.next<=b)∧Tch (fun b=>b=B∨own ev=some b) h h'
def mutB(a:AdB)(rk:RK)(X Z:Nat)(lv ev:AV)(b:Nat):Prop:=memS a.M a.W lv b∨rkM rk b∨b=X∨b=Z∨b=a.B∨own ev=some b
def Post11(a:AdB)(n bs:Nat)(rk:RK)(nu:List Int)(s:Nat)(t:Int)(X Q Z d:Nat)(lv ev:AV)(ws:List Int)(l:List AccT)(es:List EvT)(h:H)(v:AV)(h':H):Prop:=
 v=.tup [.int .u8 (stK rk.tag bs s t d ws l).1,.bool (stK rk.tag bs s t d ws l).2.1]∧∃lv' ev',SB h' a rk n lv' ev' (stK rk.tag bs s t d ws l).2.2.1 (stK rk.tag bs s t d ws l).2.2.2 (if(stK rk.tag bs s t d ws l).2.1 then es++[⟨0,t,1,0⟩]else es)∧PY h' a n bs nu t s X Q Z rk (d+1)∧
  (∀b,own lv'=some b->own lv=some b∨h.next<=b)∧(∀b,own ev'=some b->own ev=some b∨h.next<=b)∧Tch (mutB a rk X Z lv ev) h h'
theorem PenB.idle{h:H}{M n bs:Nat}{nu:List Int}{t:Int}{s X:Nat}{rk:RK}{d:Nat}(m:PenB h M n bs nu t s X rk d)(hp:pcK rk.tag d=0)(ws:List Int)(l:List AccT):PenB h M n bs nu t s X rk (d+1)∧stK rk.tag bs s t d ws l=(0,false,ws,l):=by
 obtain⟨e,lX,ns,hs,ln⟩:=m
 cases rk with
 |full G N=>
  cases d with
  |zero=>exact absurd hp (by simp[RK.tag,pcK])
  |succ d=>exact⟨⟨e,lX,ns,hs,ln⟩,rfl⟩
 |each G N=>
  match d,e,hp with
  |0,e,hp=>exact absurd hp (by simp[RK.tag,pcK])
  |1,e,hp=>exact absurd hp (by simp[RK.tag,pcK])
  |d+2,e,hp=>exact⟨⟨e,lX,ns,hs,ln⟩,rfl⟩
 |gate G nb=>
  match d,e,hp with
  |0,e,hp=>exact absurd hp (by simp[RK.tag,pcK])
  |1,e,hp=>exact absurd hp (by simp[RK.tag,pcK])
  |d+2,e,hp=>exact⟨⟨e,lX,ns,hs,ln⟩,rfl⟩
theorem rkM_F{rk:RK}{b:Nat}(h:rkM rk b):rkF rk b:=by
 cases rk with
 |full G N=>exact .inr h
 |each G N=>exact .inr h
 |gate G nb=>exact h
theorem w11(h31:F31 call)(h33:F33 call)(h32:F32 call){h:H}{a:AdB}{n bs:Nat}{rk:RK}{nu:List Int}{t:Int}{s X Q Z d:Nat}{lv ev:AV}{ws:List Int}{l:List AccT}{es:List EvT}(sb:SB h a rk n lv ev ws l es)(pz:PY h a n bs nu t s X Q Z rk d)(hn:n<=64)(hl:l.length<=1000000)(he:es.length<=1000000)(wi:WInv rk.tag n bs ws 1000)(t0:0<=t)(t1:t<64):
 WF P call c11 [.ptr Z 0] h (Post11 a n bs rk nu s t X Q Z d lv ev ws l es h):=by
 obtain⟨bg,gZ⟩:=pz.gZ
 have k31:=h31 h X Q Z rk _ _ _ _ _ _ gZ pz.gQ (pcK_in rk d) (fun _ f1 f2 f3=>nextPB f1 f2 f3 pz.p)
 by_cases hp:pcK rk.tag d=0
 ·obtain⟨i1,i2⟩:=pz.p.idle hp ws l
  rw[hp]at k31
  simp only[go_sem,seval,k31]
  unfold Post11
  rw[i2]
  exact⟨rfl,lv,ev,sb,⟨i1,pz.gQ,⟨bg,gZ⟩,pz.lQ,pz.lZ⟩,fun b hb=>.inl hb,fun b hb=>.inl hb,Nat.le_refl _,fun b lb hb=>rfl⟩
 obtain⟨cq,kq,eQ⟩:=rkRun rk X
 have gQ:=pz.gQ
 rw[eQ]at gQ
 have lZ:=pz.lZ
 have st0:Tch (fun b=>b=Z) h ⟨h.next,h.t.set Z (.row (putList 0 [.ptr a.B 0,.ptr Q 0,.int .i64 t,.int .i64 0,.int .u64 0,.bool true] T.e) 6 108)⟩:=⟨Nat.le_refl _,fun b lb hb=>by
  simp only[go_sem,seval,hb]⟩
 have ZQ:Q≠Z:=fun q=>by
  rw[q,gZ]at gQ
  simp[rowL]at gQ
 have nZ:∀b,sbF a lv ev b->b≠Z:=fun b hb q=>by
  obtain⟨c,k,e,g,o⟩:=sb.ty hb
  rw[q]at g
  obtain rfl:=ty_ne g gZ
  revert o
  decide
 have nZp:∀b,rkF rk b∨b=X->b≠Z:=fun b hb q=>by
  obtain⟨c,k,e,g,o⟩:=pz.p.off hb
  rw[q]at g
  obtain rfl:=ty_ne g gZ
  revert o
  decide
 have sb0:=sb.keep (h':=⟨h.next,h.t.set Z (.row (putList 0 [.ptr a.B 0,.ptr Q 0,.int .i64 t,.int .i64 0,.int .u64 0,.bool true] T.e) 6 108)⟩) st0.next fun b lb hb=>st0.old b lb (nZ b hb)
 have p0:=pz.p.keep (h':=⟨h.next,h.t.set Z (.row (putList 0 [.ptr a.B 0,.ptr Q 0,.int .i64 t,.int .i64 0,.int .u64 0,.bool true] T.e) 6 108)⟩) st0.next fun b lb hb=>st0.old b lb (nZp b hb)
 have gQ0:=(st0.old Q pz.lQ ZQ).trans pz.gQ
 simp only[go_sem,seval,k31,hp,gZ]
 refine opt_by (h33 _ a.M a.W n bs nu t s X Q rk d lv ws l gQ0 p0 sb0.mm hl wi hn t0 t1) fun v1 h1 p1=>?_
 obtain⟨rfl,lv',m1,pen1,lo1,st1⟩:=p1
 have nx1:h.next<=h1.next:=st1.next
 have tyR:∀{b:Nat} {c0:T AV} {n0:Nat} {e0:TypeId},h.t.get b=some (.row c0 n0 e0)->b≠Z->(e0≠154∧e0≠51∧e0≠296)->(e0≠362∧e0≠368∧e0≠364∧e0≠375∧e0≠367∧e0≠370∧e0≠377)->¬(memS a.M a.W lv b∨rkM rk b∨b=X):=fun{b c0 n0 e0} g hbZ h1 h2 q=>by
  rcases q with q|q
  ·exact sb.mm.off (offQ g h1.1 h1.2.1 h1.2.2) q
  ·obtain⟨c,k,e,g',o⟩:=pz.p.off (q.imp rkM_F id)
   obtain rfl:=ty_ne g g'
   obtain⟨a1,a2,a3,a4,a5,a6,a7⟩:=h2
   rcases o with q|q|q|q|q|q|q<;>contradiction
 have k0:∀{b:Nat} {c0:T AV} {n0:Nat} {e0:TypeId},b<h.next->h.t.get b=some (.row c0 n0 e0)->b≠Z->(e0≠154∧e0≠51∧e0≠296)->(e0≠362∧e0≠368∧e0≠364∧e0≠375∧e0≠367∧e0≠370∧e0≠377)->h1.t.get b=h.t.get b:=fun{b c0 n0 e0} lb g hbZ a1 a2=>(st1.old b lb (tyR g hbZ a1 a2)).trans (st0.old b lb hbZ)
 have gB1:=(k0 sb.lB sb.gB (nZ _ (.inr (.inl rfl))) (by decide) (by decide)).trans sb.gB
 obtain⟨csV,gV,hlV⟩:=sb.gV
 have gV1:=(k0 sb.lV gV (nZ _ (.inr (.inr (.inr (.inl rfl))))) (by decide) (by decide)).trans gV
 obtain⟨cr,kr,eR⟩:=rkRow rk n
 have gR1:=(k0 sb.lR (sb.gR.trans (by rw[eR])) (nZ _ (.inr (.inr (.inr (.inr rfl))))) (by decide) (by decide)).trans sb.gR
 have gQ1:=(k0 pz.lQ gQ ZQ (by decide) (by decide)).trans pz.gQ
 have oe1:=sb.oe.keep nx1 fun b hb=>by
  obtain⟨c,k,g⟩:=own_row sb.oe hb
  exact k0 (sb.oe.lt hb) g (nZ b (.inr (.inr (.inl hb)))) (by decide) (by decide)
 have gZ1:h1.t.get Z=some (.row (putList 0 [.ptr a.B 0,.ptr Q 0,.int .i64 t,.int .i64 0,.int .u64 0,.bool true] T.e) 6 108):=by
  refine(st1.old Z lZ fun q=>?_).trans (by simp[go_sem])
  rcases q with q|q
  ·exact sb.mm.off (offQ gZ (by decide) (by decide) (by decide)) q
  ·exact nZp Z (q.imp rkM_F id) rfl
 have sb1:SB h1 a rk n lv' ev (stK rk.tag bs s t d ws l).2.2.1 (stK rk.tag bs s t d ws l).2.2.2 es:=⟨m1,gB1,oe1,⟨csV,gV1,hlV⟩,gR1,Nat.lt_of_lt_of_le sb.lB nx1,Nat.lt_of_lt_of_le sb.lV nx1,Nat.lt_of_lt_of_le sb.lR nx1⟩
 have pz1:PY h1 a n bs nu t s X Q Z rk (d+1):=⟨pen1,gQ1,⟨true,gZ1⟩,Nat.lt_of_lt_of_le pz.lQ nx1,Nat.lt_of_lt_of_le pz.lZ nx1⟩
 have old1:∀b,b<h.next->¬(memS a.M a.W lv b∨rkM rk b∨b=X)->b≠Z->h1.t.get b=h.t.get b:=fun b lb h1 h2=>(st1.old b lb h1).trans (st0.old b lb h2)
 unfold Post11
 generalize hk:stK rk.tag bs s t d ws l=k at*
 obtain⟨pc,dn,ws',l'⟩:=k
 cases dn with
 |false=>
  simp only[go_sem,seval]
  exact⟨lv',ev,sb1,pz1,lo1,fun b hb=>.inl hb,nx1,fun b lb hb=>old1 b lb (fun q=>hb (q.elim .inl fun q=>.inr (q.elim .inl fun q=>.inr (.inl q)))) fun q=>hb (.inr (.inr (.inr (.inl q))))⟩
 |true=>
  have f0:fw .u64 0=0:=rfl
  have nEB:own ev≠some a.B:=fun q=>by
   obtain⟨c,k,g⟩:=own_row sb.oe q
   have g2:=sb.gB
   rw[g]at g2
   simp[rowL]at g2
  simp only[go_sem,seval,gZ1,f0]
  refine opt_by (h32 h1 a.B _ ev es t 1 0 gB1 sb1.lB rfl rfl rfl oe1 nEB he) fun v2 h2 p2=>?_
  obtain⟨rfl,ev',gB2,oe2,nE2,lo2,st2⟩:=p2
  have nx2:=st2.next
  have kR:∀{b:Nat} {c0:T AV} {n0:Nat} {e0:TypeId},b<h1.next->h1.t.get b=some (.row c0 n0 e0)->e0≠49->e0≠231->h2.t.get b=h1.t.get b:=fun{b c0 n0 e0} lb g a1 a2=>st2.old b lb fun q=>by
   rcases q with q|q
   ·rw[q]at g
    exact a1 (ty_ne g gB1)
   ·obtain⟨c,k,g2⟩:=own_row oe1 q
    exact a2 (ty_ne g g2)
  have gZ2:=kR (Nat.lt_of_lt_of_le lZ nx1) gZ1 (by decide) (by decide)
  have gZ3:=gZ2.trans gZ1
  simp only[go_sem,seval,nx2,gZ3,gZ1]
  have mm2:RMemL h2 a.M a.W lv' ws' l':=m1.keep nx2 fun b lb hb=>by
   rcases hb with rfl|rfl|q
   ·exact kR lb m1.g (by decide) (by decide)
   ·exact kR lb m1.w (by decide) (by decide)
   ·obtain⟨c,k,g2⟩:=own_row m1.l q
    exact kR lb g2 (by decide) (by decide)
  have pen2:PenB h2 a.M n bs nu t s X rk (d+1):=pen1.keep nx2 fun b lb hb=>by
   obtain⟨c,k,e,g,o⟩:=pen1.off hb
   exact kR lb g (by rintro rfl;revert o;decide) (by rintro rfl;revert o;decide)
  have gQ1':=gQ1
  rw[eQ]at gQ1'
  have gR1':=gR1
  rw[eR]at gR1'
  refine⟨lv',ev',⟨mm2,gB2,by rw[List.length_append];exact oe2,⟨csV,(kR sb1.lV gV1 (by decide) (by decide)).trans gV1,hlV⟩,(kR sb1.lR gR1' (by decide) (by decide)).trans gR1,Nat.lt_of_lt_of_le sb1.lB nx2,Nat.lt_of_lt_of_le sb1.lV nx2,Nat.lt_of_lt_of_le sb1.lR nx2⟩,⟨pen2,(kR pz1.lQ gQ1' (by decide) (by decide)).trans gQ1,⟨true,gZ3⟩,Nat.lt_of_lt_of_le pz1.lQ nx2,Nat.lt_of_lt_of_le pz1.lZ nx2⟩,lo1,fun b hb=>.inr (Nat.le_trans nx1 (lo2 b hb)),Nat.le_trans nx1 nx2,fun b lb hb=>?_⟩
  refine(st2.old b (Nat.lt_of_lt_of_le lb nx1) fun q=>hb (q.elim (fun q=>.inr (.inr (.inr (.inr (.inl q))))) fun q=>.inr (.inr (.inr (.inr (.inr q)))))).trans (old1 b lb (fun q=>hb (q.elim .inl fun q=>.inr (q.elim .inl fun q=>.inr (.inl q)))) fun q=>hb (.inr (.inr (.inr (.inl q)))))
structure StaA(h:H)(a:AdA)(c:CfgT)(hL:H):Prop where
 lay:LayH hL a.L c (plOf c) (hsL c)
 fz:StepN hL h
 po:PoolH h a.M a.L (plOf c) a.Po a.O
 gm:h.t.get a.Gm=some (.map [] 0)
 lG:a.Gm<h.next
def stA(a:AdA)(hL:H)(b:Nat):Prop:=b<hL.next∨b=a.Po∨b=a.O∨b=a.Gm
theorem StaA.keep{h h':H}{a:AdA}{c:CfgT}{hL:H}(m:StaA h a c hL)(hn:h.next<=h'.next)(k:∀b,b<h.next->stA a hL b->h'.t.get b=h.t.get b):StaA h' a c hL:=by
 obtain⟨gv,gP,gO,lP,lO,og⟩:=m.po
 refine⟨m.lay,⟨Nat.le_trans m.fz.next hn,fun b hb=>(k b (Nat.lt_of_lt_of_le hb m.fz.next) (.inl hb)).trans (m.fz.old b hb)⟩,⟨gv,(k _ lP (.inr (.inl rfl))).trans gP,(k _ lO (.inr (.inr (.inl rfl)))).trans gO,Nat.lt_of_lt_of_le lP hn,Nat.lt_of_lt_of_le lO hn,og⟩,(k _ m.lG (.inr (.inr (.inr rfl)))).trans m.gm,Nat.lt_of_lt_of_le m.lG hn⟩
theorem StaA.lt{h:H}{a:AdA}{c:CfgT}{hL:H}(m:StaA h a c hL){b:Nat}(hb:stA a hL b):b<h.next:=by
 obtain⟨gv,gP,gO,lP,lO,og⟩:=m.po
 rcases hb with hb|rfl|rfl|rfl
 ·exact Nat.lt_of_lt_of_le hb m.fz.next
 ·exact lP
 ·exact lO
 ·exact m.lG
theorem SA.lt{h:H}{a:AdA}{ek:EK}{n:Nat}{lv ev:AV}{ws:List Int}{l:List AccT}{es:List EvT}(m:SA h a ek n lv ev ws l es){b:Nat}(hb:saF a lv ev b):b<h.next:=by
 rcases hb with(rfl|rfl|q)|rfl|q|rfl|rfl
 ·exact m.mm.lM
 ·exact m.mm.lW
 ·exact m.mm.l.lt q
 ·exact m.lA
 ·exact m.oe.lt q
 ·exact m.lV
 ·exact m.lR
structure SideA(h:H)(a:AdA)(ek:EK)(c:CfgT)(n:Nat)(hL:H)(lv ev:AV)(ws:List Int)(l:List AccT)(es:List EvT)(nu:List Int):Prop where
 sa:SA h a ek n lv ev ws l es
 en:EngA h a.M n n nu ek
 vs:VS a ek
 st:StaA h a c hL
 ds:∀b,saF a lv ev b∨engF ek b->¬stA a hL b
 el:∀b,engF ek b->b<h.next
 tg:(ek.tag:Int)=c.engine
 sl:c.slots=(n:Int)
def footA(a:AdA)(ek:EK)(lv ev:AV)(hL:H)(b:Nat):Prop:=saF a lv ev b∨engF ek b∨stA a hL b
theorem SideA.lt{h:H}{a:AdA}{ek:EK}{c:CfgT}{n:Nat}{hL:H}{lv ev:AV}{ws:List Int}{l:List AccT}{es:List EvT}{nu:List Int}(m:SideA h a ek c n hL lv ev ws l es nu){b:Nat}(hb:footA a ek lv ev hL b):b<h.next:=by
 rcases hb with q|q|q
 ·exact m.sa.lt q
 ·exact m.el b q
 ·exact m.st.lt q
theorem SideA.keep{h h':H}{a:AdA}{ek:EK}{c:CfgT}{n:Nat}{hL:H}{lv ev:AV}{ws:List Int}{l:List AccT}{es:List EvT}{nu:List Int}(m:SideA h a ek c n hL lv ev ws l es nu)(hn:h.next<=h'.next)(k:∀b,b<h.next->footA a ek lv ev hL b->h'.t.get b=h.t.get b):SideA h' a ek c n hL lv ev ws l es nu:=
 ⟨m.sa.keep hn fun b lb hb=>k b lb (.inl hb),m.en.keep hn fun b lb hb=>k b lb (.inr (.inl hb.f)),m.vs,m.st.keep hn fun b lb hb=>k b lb (.inr (.inr hb)),m.ds,fun b hb=>Nat.lt_of_lt_of_le (m.el b hb) hn,m.tg,m.sl⟩
structure SidePA(h:H)(a:AdA)(ek:EK)(c:CfgT)(n:Nat)(hL:H)(lv ev:AV)(ws:List Int)(l:List AccT)(es:List EvT)(nu:List Int)(t:Int)(s X Y Q Z d:Nat):Prop where
 sa:SA h a ek n lv ev ws l es
 pz:PZ h a n n nu t s X Y Q Z ek d
 vs:VS a ek
 st:StaA h a c hL
 ds:∀b,saF a lv ev b∨engF ek b∨b=X∨b=Y->¬stA a hL b
 el:∀b,engF ek b∨b=Y->b<h.next
 vY:Y≠a.V
 tg:(ek.tag:Int)=c.engine
 sl:c.slots=(n:Int)
def footPA(a:AdA)(ek:EK)(lv ev:AV)(hL:H)(X Y Q Z:Nat)(b:Nat):Prop:=footA a ek lv ev hL b∨b=X∨b=Y∨b=Q∨b=Z
theorem SidePA.lt{h:H}{a:AdA}{ek:EK}{c:CfgT}{n:Nat}{hL:H}{lv ev:AV}{ws:List Int}{l:List AccT}{es:List EvT}{nu:List Int}{t:Int}{s X Y Q Z d:Nat}(m:SidePA h a ek c n hL lv ev ws l es nu t s X Y Q Z d){b:Nat}(hb:footPA a ek lv ev hL X Y Q Z b):b<h.next:=by
 rcases hb with(q|q|q)|rfl|rfl|rfl|rfl
 ·exact m.sa.lt q
 ·exact m.el b (.inl q)
 ·exact m.st.lt q
 ·exact m.pz.p.lX
 ·exact m.el _ (.inr rfl)
 ·exact m.pz.lQ
 ·exact m.pz.lZ
theorem SidePA.keep{h h':H}{a:AdA}{ek:EK}{c:CfgT}{n:Nat}{hL:H}{lv ev:AV}{ws:List Int}{l:List AccT}{es:List EvT}{nu:List Int}{t:Int}{s X Y Q Z d:Nat}(m:SidePA h a ek c n hL lv ev ws l es nu t s X Y Q Z d)(hn:h.next<=h'.next)(k:∀b,b<h.next->footPA a ek lv ev hL X Y Q Z b->h'.t.get b=h.t.get b):SidePA h' a ek c n hL lv ev ws l es nu t s X Y Q Z d:=
 ⟨m.sa.keep hn fun b lb hb=>k b lb (.inl (.inl hb)),m.pz.keep hn fun b lb hb=>k b lb (hb.elim (fun q=>.inl (.inr (.inl q))) .inr),m.vs,m.st.keep hn fun b lb hb=>k b lb (.inl (.inr (.inr hb))),m.ds,fun b hb=>Nat.lt_of_lt_of_le (m.el b hb) hn,m.vY,m.tg,m.sl⟩
theorem engM_F{ek:EK}{b:Nat}(h:engM ek b):engF ek b:=by
 cases ek with
 |full G N B=>exact .inr h
 |each G N F=>exact .inr (.inl h)
 |gate G S nb Sx=>exact .inr (.inl h)
theorem EK.add_tag(ek:EK)(Y:Nat):(ek.add Y).tag=ek.tag∧(ek.add Y).ht=ek.ht∧(ek.add Y).rt=ek.rt∧(ek.add Y).G=ek.G:=by cases ek<;>exact⟨rfl,rfl,rfl,rfl⟩
theorem EK.add_F{ek:EK}{Y b:Nat}(h:engF (ek.add Y) b):engF ek b∨b=Y:=by
 cases ek with
 |full G N B=>exact .inl h
 |each G N F=>exact .inl h
 |gate G S nb Sx=>exact h.elim (fun q=>.inl (.inl q)) fun q=>q.elim (fun q=>.inl (.inr (.inl q))) fun q=>q.elim (fun q=>.inl (.inr (.inr q))) .inr
theorem SidePA.done{h:H}{a:AdA}{ek:EK}{c:CfgT}{n:Nat}{hL:H}{lv ev:AV}{ws:List Int}{l:List AccT}{es:List EvT}{nu:List Int}{t:Int}{s X Y Q Z d:Nat}(m:SidePA h a ek c n hL lv ev ws l es nu t s X Y Q Z (d+2)):SideA h a (ek.add Y) c n hL lv ev ws l es (nu.set s 1):=by
 obtain⟨e1,e2,e3,e4⟩:=ek.add_tag Y
 refine⟨⟨m.sa.mm,m.sa.gA,m.sa.oe,m.sa.gV,by rw[e2,e3,e4];exact m.sa.gR,m.sa.lA,m.sa.lV,m.sa.lR⟩,m.pz.p.done,fun q=>?_,m.st,fun b hb=>m.ds b ?_,fun b hb=>m.el b (EK.add_F hb),by rw[e1];exact m.tg,m.sl⟩
 ·rcases EK.add_F q with q|q
  ·exact m.vs q
  ·exact m.vY q.symm
 ·rcases hb with hb|hb
  ·exact .inl hb
  ·exact(EK.add_F hb).elim (fun q=>.inr (.inl q)) fun q=>.inr (.inr (.inr q))
theorem enterA{call:CallE}(h8:F8 call){h:H}{a:AdA}{ek:EK}{c:CfgT}{n:Nat}{hL:H}{lv ev:AV}{ws:List Int}{l:List AccT}{es:List EvT}{nu:List Int}(m:SideA h a ek c n hL lv ev ws l es nu)(hn:n<=64){t:Int}(t0:0<=t)(t1:t<64){s:Nat}(hs:s<n){x:Int}(hx:nu[s]?=some x)(x1:x=0∨x=1):
 Does call 8 [.ptr a.A 0,.int .i64 t,.int .i64 (s:Int),.int .i64 0] h fun v h'=>(x=1∧v=.tup [.nilp,.int .i64 8]∧StepN h h')∨(x=0∧∃X Y Q Z,v=.tup [.ptr Z 0,.int .i64 0]∧h.next<=X∧h.next<=Y∧h.next<=Q∧h.next<=Z∧SidePA h' a ek c n hL lv ev ws l es nu t s X Y Q Z 0∧Tch (footA a ek lv ev hL) h h'):=by
 obtain⟨v,h',k,p⟩:=h8 h a n n ek nu t s x lv ev ws l es m.sa m.en m.vs hn (by omega) t0 t1 hs hx x1
 refine⟨v,h',k,?_⟩
 rcases p with p|⟨rfl,X,Y,Q,Z,rfl,oX,oY,oQ,oZ,sa,pz,st⟩
 ·exact .inl p
 ·have tc:∀b,engM ek b∨b=a.V->footA a ek lv ev hL b:=fun b hb=>hb.elim (fun q=>.inr (.inl (engM_F q))) fun q=>.inl (.inr (.inr (.inr (.inl q))))
  refine .inr ⟨rfl,X,Y,Q,Z,rfl,oX,oY,oQ,oZ,⟨sa,pz,m.vs,m.st.keep st.next fun b lb hb=>st.old b lb fun q=>m.ds b (q.elim (fun q=>.inr (engM_F q)) fun q=>.inl (.inr (.inr (.inr (.inl q))))) hb,fun b hb hq=>?_,fun b hb=>?_,by have:=m.sa.lV;omega,m.tg,m.sl⟩,st.next,fun b lb hb=>st.old b lb fun q=>hb (tc b q)⟩
  ·rcases hb with q|q|rfl|rfl
   ·exact m.ds b (.inl q) hq
   ·exact m.ds b (.inr q) hq
   ·have:=m.st.lt hq;omega
   ·have:=m.st.lt hq;omega
  ·rcases hb with q|rfl
   ·exact Nat.lt_of_lt_of_le (m.el b q) st.next
   ·have yx:=pz.p.yx
    rcases yx with q|q
    ·cases ek with
     |full G N B=>cases q
     |each G N F=>cases q
     |gate G S nb Sx=>
      obtain⟨es',e⟩:=pz.p.e
      exact e.lY
    ·rw[q];exact pz.p.lX
def F10(call:CallE):Prop:=∀h a n (bs:Nat) ek nu (t:Int) s X Y Q Z d lv ev ws l es,SA h a ek n lv ev ws l es->PZ h a n bs nu t s X Y Q Z ek d->VS a ek->n<=64->l.length<=1000000->es.length<=1000000->WInv ek.tag n bs ws 1000->0<=t->t<64->Does call 10 [.ptr Z 0] h (PostT a n bs ek nu s t X Y Q Z d lv ev ws l es h)
theorem stepSA{call:CallE}(h10:F10 call){h:H}{a:AdA}{ek:EK}{c:CfgT}{n:Nat}{hL:H}{lv ev:AV}{ws:List Int}{l:List AccT}{es:List EvT}{nu:List Int}{t:Int}{s X Y Q Z d:Nat}(m:SidePA h a ek c n hL lv ev ws l es nu t s X Y Q Z d)(hn:n<=64)(hl:l.length<=1000000)(he:es.length<=1000000)(wi:WInv ek.tag n n ws 1000)(t0:0<=t)(t1:t<64):
 Does call 10 [.ptr Z 0] h fun v h'=>v=.tup [.int .u8 (stK ek.tag n s t d ws l).1,.bool (stK ek.tag n s t d ws l).2.1]∧∃lv' ev',SidePA h' a ek c n hL lv' ev' (stK ek.tag n s t d ws l).2.2.1 (stK ek.tag n s t d ws l).2.2.2 (if(stK ek.tag n s t d ws l).2.1 then es++[⟨0,t,1,0⟩]else es) nu t s X Y Q Z (d+1)∧(∀b,footPA a ek lv' ev' hL X Y Q Z b->footPA a ek lv ev hL X Y Q Z b∨h.next<=b)∧Tch (footPA a ek lv ev hL X Y Q Z) h h':=by
 obtain⟨v,h',k,rfl,lv',ev',sa,pz,o1,o2,st⟩:=h10 h a n n ek nu t s X Y Q Z d lv ev ws l es m.sa m.pz m.vs hn hl he wi t0 t1
 have tc:∀b,mutA a ek X Y lv ev b->saF a lv ev b∨engF ek b∨b=X∨b=Y:=fun b hb=>by
  rcases hb with q|q|q|q|q|q
  ·exact .inl (.inl q)
  ·exact .inr (.inl (engM_F q))
  ·exact .inr (.inr (.inl q))
  ·exact .inr (.inr (.inr q))
  ·exact .inl (.inr (.inl q))
  ·exact .inl (.inr (.inr (.inl q)))
 have tf:∀b,mutA a ek X Y lv ev b->footPA a ek lv ev hL X Y Q Z b:=fun b hb=>by
  rcases tc b hb with q|q|q|q
  ·exact .inl (.inl q)
  ·exact .inl (.inr (.inl q))
  ·exact .inr (.inl q)
  ·exact .inr (.inr (.inl q))
 have sf:∀b,saF a lv' ev' b->saF a lv ev b∨h.next<=b:=fun b hb=>by
  rcases hb with(q|q|q)|q|q|q
  ·exact .inl (.inl (.inl q))
  ·exact .inl (.inl (.inr (.inl q)))
  ·exact(o1 b q).imp (fun q=>.inl (.inr (.inr q))) id
  ·exact .inl (.inr (.inl q))
  ·exact(o2 b q).imp (fun q=>.inr (.inr (.inl q))) id
  ·exact .inl (.inr (.inr (.inr q)))
 refine⟨_,h',k,rfl,lv',ev',⟨sa,pz,m.vs,m.st.keep st.next fun b lb hb=>st.old b lb fun q=>m.ds b (tc b q) hb,fun b hb hq=>?_,fun b hb=>Nat.lt_of_lt_of_le (m.el b hb) st.next,m.vY,m.tg,m.sl⟩,fun b hb=>?_,st.next,fun b lb hb=>st.old b lb fun q=>hb (tf b q)⟩
 ·rcases hb with q|q
  ·rcases sf b q with q|q
   ·exact m.ds b (.inl q) hq
   ·have:=m.st.lt hq;omega
  ·exact m.ds b (.inr q) hq
 ·rcases hb with(q|q)|q
  ·exact(sf b q).imp (fun q=>.inl (.inl q)) id
  ·exact .inl (.inl (.inr q))
  ·exact .inl (.inr q)
structure AdS where
 Tk:Nat
 Gv:Nat
 Gn:Nat
 cv:AV
 hv:AV
 wv:AV
structure StaB(h:H)(a:AdB)(z:AdS)(c:CfgT):Prop where
 gL:h.t.get a.L=some (rowL (cfgC c z.cv++(plC (plOf c)++[z.hv,z.wv])) 41)
 rd:RdL none 1 h z.cv (uL c.cuts)
 lc:∀b,own z.cv=some b->b<h.next
 po:PoolB h a.M a.L a.q a.Po z.Tk z.Gv z.Gn
 gK:h.t.get a.K=some (.row (putList 0 (List.replicate a.q (.int .i64 0)) T.e) a.q 3)
 gC:h.t.get a.C=some (.row (putList 0 (List.replicate a.q (.int .i64 0)) T.e) a.q 3)
 lL:a.L<h.next
 lK:a.K<h.next
 lC:a.C<h.next
 hq:a.q=(hsL c).length+1
def stB(a:AdB)(z:AdS)(b:Nat):Prop:=b=a.L∨own z.cv=some b∨b=a.Po∨b=z.Tk∨b=z.Gn∨b=a.K∨b=a.C
theorem StaB.keep{h h':H}{a:AdB}{z:AdS}{c:CfgT}(m:StaB h a z c)(hn:h.next<=h'.next)(k:∀b,b<h.next->stB a z b->h'.t.get b=h.t.get b):StaB h' a z c:=by
 obtain⟨gP,gT,gG,lP,lT,lG⟩:=m.po
 have l:∀{a},a<h.next->a<h'.next:=fun ha=>Nat.lt_of_lt_of_le ha hn
 exact⟨(k _ m.lL (.inl rfl)).trans m.gL,m.rd.keep fun b hb=>k b (m.lc b hb) (.inr (.inl hb)),fun b hb=>l (m.lc b hb),⟨(k _ lP (.inr (.inr (.inl rfl)))).trans gP,(k _ lT (.inr (.inr (.inr (.inl rfl))))).trans gT,(k _ lG (.inr (.inr (.inr (.inr (.inl rfl)))))).trans gG,l lP,l lT,l lG⟩,(k _ m.lK (.inr (.inr (.inr (.inr (.inr (.inl rfl))))))).trans m.gK,(k _ m.lC (.inr (.inr (.inr (.inr (.inr (.inr rfl))))))).trans m.gC,l m.lL,l m.lK,l m.lC,m.hq⟩
theorem StaB.lt{h:H}{a:AdB}{z:AdS}{c:CfgT}(m:StaB h a z c){b:Nat}(hb:stB a z b):b<h.next:=by
 obtain⟨gP,gT,gG,lP,lT,lG⟩:=m.po
 rcases hb with rfl|q|rfl|rfl|rfl|rfl|rfl
 ·exact m.lL
 ·exact m.lc b q
 ·exact lP
 ·exact lT
 ·exact lG
 ·exact m.lK
 ·exact m.lC
theorem SB.lt{h:H}{a:AdB}{rk:RK}{n:Nat}{lv ev:AV}{ws:List Int}{l:List AccT}{es:List EvT}(m:SB h a rk n lv ev ws l es){b:Nat}(hb:sbF a lv ev b):b<h.next:=by
 rcases hb with(rfl|rfl|q)|rfl|q|rfl|rfl
 ·exact m.mm.lM
 ·exact m.mm.lW
 ·exact m.mm.l.lt q
 ·exact m.lB
 ·exact m.oe.lt q
 ·exact m.lV
 ·exact m.lR
theorem EngB.lt{h:H}{M n bs:Nat}{nu:List Int}{rk:RK}(m:EngB h M n bs nu rk){b:Nat}(hb:rkF rk b):b<h.next:=by
 cases rk with
 |full G N=>
  have m':TriE h M n bs G N 362 (tZ nu):=m
  exact m'.lt hb
 |each G N=>
  have m':TriE h M n bs G N 368 (tZ nu):=m
  exact m'.lt hb
 |gate G nb=>exact(show b=G from hb)▸m.2.lG
structure SideB(h:H)(a:AdB)(z:AdS)(rk:RK)(c:CfgT)(n:Nat)(lv ev:AV)(ws:List Int)(l:List AccT)(es:List EvT)(nu:List Int):Prop where
 sb:SB h a rk n lv ev ws l es
 en:EngB h a.M n n nu rk
 st:StaB h a z c
 ds:∀b,sbF a lv ev b∨rkF rk b->¬stB a z b
 tg:(rk.tag:Int)=c.engine
 sl:c.slots=(n:Int)
def footB(a:AdB)(z:AdS)(rk:RK)(lv ev:AV)(b:Nat):Prop:=sbF a lv ev b∨rkF rk b∨stB a z b
theorem SideB.lt{h:H}{a:AdB}{z:AdS}{rk:RK}{c:CfgT}{n:Nat}{lv ev:AV}{ws:List Int}{l:List AccT}{es:List EvT}{nu:List Int}(m:SideB h a z rk c n lv ev ws l es nu){b:Nat}(hb:footB a z rk lv ev b):b<h.next:=by
 rcases hb with q|q|q
 ·exact m.sb.lt q
 ·exact m.en.lt q
 ·exact m.st.lt q
theorem SideB.keep{h h':H}{a:AdB}{z:AdS}{rk:RK}{c:CfgT}{n:Nat}{lv ev:AV}{ws:List Int}{l:List AccT}{es:List EvT}{nu:List Int}(m:SideB h a z rk c n lv ev ws l es nu)(hn:h.next<=h'.next)(k:∀b,b<h.next->footB a z rk lv ev b->h'.t.get b=h.t.get b):SideB h' a z rk c n lv ev ws l es nu:=
 ⟨m.sb.keep hn fun b lb hb=>k b lb (.inl hb),m.en.keep hn fun b lb hb=>k b lb (.inr (.inl hb)),m.st.keep hn fun b lb hb=>k b lb (.inr (.inr hb)),m.ds,m.tg,m.sl⟩
structure SidePB(h:H)(a:AdB)(z:AdS)(rk:RK)(c:CfgT)(n:Nat)(lv ev:AV)(ws:List Int)(l:List AccT)(es:List EvT)(nu:List Int)(t:Int)(s X Q Z d:Nat):Prop where
 sb:SB h a rk n lv ev ws l es
 pz:PY h a n n nu t s X Q Z rk d
 st:StaB h a z c
 ds:∀b,sbF a lv ev b∨rkF rk b∨b=X∨b=Z->¬stB a z b
 tg:(rk.tag:Int)=c.engine
 sl:c.slots=(n:Int)
def footPB(a:AdB)(z:AdS)(rk:RK)(lv ev:AV)(X Q Z:Nat)(b:Nat):Prop:=footB a z rk lv ev b∨b=X∨b=Q∨b=Z
theorem PenB.ltF{h:H}{M n bs:Nat}{nu:List Int}{t:Int}{s X:Nat}{rk:RK}{d:Nat}(m:PenB h M n bs nu t s X rk d){b:Nat}(hb:rkF rk b):b<h.next:=by
 obtain⟨e,lX,ns,hs,ln⟩:=m
 cases rk with
 |full G N=>
  cases d with
  |zero=>exact e.1.lt hb
  |succ d=>exact e.1.lt hb
 |each G N=>
  match d,e with
  |0,e=>exact e.1.lt hb
  |1,e=>exact e.1.lt hb
  |d+2,e=>exact e.1.lt hb
 |gate G nb=>
  match d,e with
  |0,e=>exact(show b=G from hb)▸e.1.lG
  |1,e=>exact(show b=G from hb)▸e.1.lG
  |d+2,e=>exact(show b=G from hb)▸e.1.lG
theorem SidePB.lt{h:H}{a:AdB}{z:AdS}{rk:RK}{c:CfgT}{n:Nat}{lv ev:AV}{ws:List Int}{l:List AccT}{es:List EvT}{nu:List Int}{t:Int}{s X Q Z d:Nat}(m:SidePB h a z rk c n lv ev ws l es nu t s X Q Z d){b:Nat}(hb:footPB a z rk lv ev X Q Z b):b<h.next:=by
 rcases hb with(q|q|q)|rfl|rfl|rfl
 ·exact m.sb.lt q
 ·exact m.pz.p.ltF q
 ·exact m.st.lt q
 ·exact m.pz.p.lX
 ·exact m.pz.lQ
 ·exact m.pz.lZ
theorem SidePB.keep{h h':H}{a:AdB}{z:AdS}{rk:RK}{c:CfgT}{n:Nat}{lv ev:AV}{ws:List Int}{l:List AccT}{es:List EvT}{nu:List Int}{t:Int}{s X Q Z d:Nat}(m:SidePB h a z rk c n lv ev ws l es nu t s X Q Z d)(hn:h.next<=h'.next)(k:∀b,b<h.next->footPB a z rk lv ev X Q Z b->h'.t.get b=h.t.get b):SidePB h' a z rk c n lv ev ws l es nu t s X Q Z d:=
 ⟨m.sb.keep hn fun b lb hb=>k b lb (.inl (.inl hb)),m.pz.keep hn fun b lb hb=>k b lb (hb.elim (fun q=>.inl (.inr (.inl q))) .inr),m.st.keep hn fun b lb hb=>k b lb (.inl (.inr (.inr hb))),m.ds,m.tg,m.sl⟩
theorem SidePB.done{h:H}{a:AdB}{z:AdS}{rk:RK}{c:CfgT}{n:Nat}{lv ev:AV}{ws:List Int}{l:List AccT}{es:List EvT}{nu:List Int}{t:Int}{s X Q Z d:Nat}(m:SidePB h a z rk c n lv ev ws l es nu t s X Q Z (d+2)):SideB h a z rk c n lv ev ws l es (nu.set s 1):=
 ⟨m.sb,m.pz.p.done,m.st,fun b hb=>m.ds b (hb.imp id .inl),m.tg,m.sl⟩
theorem enterB{call:CallE}(h9:F9 call){h:H}{a:AdB}{z:AdS}{rk:RK}{c:CfgT}{n:Nat}{lv ev:AV}{ws:List Int}{l:List AccT}{es:List EvT}{nu:List Int}(m:SideB h a z rk c n lv ev ws l es nu)(hn:n<=64){t:Int}(t0:0<=t)(t1:t<64){s:Nat}(hs:s<n){x:Int}(hx:nu[s]?=some x)(x1:x=0∨x=1):
 Does call 9 [.ptr a.B 0,.int .i64 t,.int .i64 (s:Int),.int .i64 0] h fun v h'=>(x=1∧v=.tup [.nilp,.int .i64 8]∧StepN h h')∨(x=0∧∃X Q Z,v=.tup [.ptr Z 0,.int .i64 0]∧h.next<=X∧h.next<=Q∧h.next<=Z∧SidePB h' a z rk c n lv ev ws l es nu t s X Q Z 0∧Tch (footB a z rk lv ev) h h'):=by
 obtain⟨v,h',k,p⟩:=h9 h a n n rk nu t s x lv ev ws l es m.sb m.en hn t0 t1 hs hx x1
 refine⟨v,h',k,?_⟩
 rcases p with p|⟨rfl,X,Q,Z,rfl,oX,oQ,oZ,sb,pz,st⟩
 ·exact .inl p
 ·refine .inr ⟨rfl,X,Q,Z,rfl,oX,oQ,oZ,⟨sb,pz,m.st.keep st.next fun b lb hb=>st.old b lb fun q=>m.ds b (q.elim (fun q=>.inr (rkM_F q)) fun q=>.inl (.inr (.inr (.inr (.inl q))))) hb,fun b hb hq=>?_,m.tg,m.sl⟩,st.next,fun b lb hb=>st.old b lb fun q=>hb (q.elim (fun q=>.inr (.inl (rkM_F q))) fun q=>.inl (.inr (.inr (.inr (.inl q)))))⟩
  rcases hb with q|q|rfl|rfl
  ·exact m.ds b (.inl q) hq
  ·exact m.ds b (.inr q) hq
  ·have:=m.st.lt hq;omega
  ·have:=m.st.lt hq;omega
def F11(call:CallE):Prop:=∀h a n (bs:Nat) rk nu (t:Int) s X Q Z d lv ev ws l es,SB h a rk n lv ev ws l es->PY h a n bs nu t s X Q Z rk d->n<=64->l.length<=1000000->es.length<=1000000->WInv rk.tag n bs ws 1000->0<=t->t<64->Does call 11 [.ptr Z 0] h (Post11 a n bs rk nu s t X Q Z d lv ev ws l es h)
theorem stepSB{call:CallE}(h11:F11 call){h:H}{a:AdB}{z:AdS}{rk:RK}{c:CfgT}{n:Nat}{lv ev:AV}{ws:List Int}{l:List AccT}{es:List EvT}{nu:List Int}{t:Int}{s X Q Z d:Nat}(m:SidePB h a z rk c n lv ev ws l es nu t s X Q Z d)(hn:n<=64)(hl:l.length<=1000000)(he:es.length<=1000000)(wi:WInv rk.tag n n ws 1000)(t0:0<=t)(t1:t<64):
 Does call 11 [.ptr Z 0] h fun v h'=>v=.tup [.int .u8 (stK rk.tag n s t d ws l).1,.bool (stK rk.tag n s t d ws l).2.1]∧∃lv' ev',SidePB h' a z rk c n lv' ev' (stK rk.tag n s t d ws l).2.2.1 (stK rk.tag n s t d ws l).2.2.2 (if(stK rk.tag n s t d ws l).2.1 then es++[⟨0,t,1,0⟩]else es) nu t s X Q Z (d+1)∧(∀b,footPB a z rk lv' ev' X Q Z b->footPB a z rk lv ev X Q Z b∨h.next<=b)∧Tch (footPB a z rk lv ev X Q Z) h h':=by
 obtain⟨v,h',k,rfl,lv',ev',sb,pz,o1,o2,st⟩:=h11 h a n n rk nu t s X Q Z d lv ev ws l es m.sb m.pz hn hl he wi t0 t1
 have tc:∀b,mutB a rk X Z lv ev b->sbF a lv ev b∨rkF rk b∨b=X∨b=Z:=fun b hb=>by
  rcases hb with q|q|q|q|q|q
  ·exact .inl (.inl q)
  ·exact .inr (.inl (rkM_F q))
  ·exact .inr (.inr (.inl q))
  ·exact .inr (.inr (.inr q))
  ·exact .inl (.inr (.inl q))
  ·exact .inl (.inr (.inr (.inl q)))
 have tf:∀b,mutB a rk X Z lv ev b->footPB a z rk lv ev X Q Z b:=fun b hb=>by
  rcases tc b hb with q|q|q|q
  ·exact .inl (.inl q)
  ·exact .inl (.inr (.inl q))
  ·exact .inr (.inl q)
  ·exact .inr (.inr (.inr q))
 have sf:∀b,sbF a lv' ev' b->sbF a lv ev b∨h.next<=b:=fun b hb=>by
  rcases hb with(q|q|q)|q|q|q
  ·exact .inl (.inl (.inl q))
  ·exact .inl (.inl (.inr (.inl q)))
  ·exact(o1 b q).imp (fun q=>.inl (.inr (.inr q))) id
  ·exact .inl (.inr (.inl q))
  ·exact(o2 b q).imp (fun q=>.inr (.inr (.inl q))) id
  ·exact .inl (.inr (.inr (.inr q)))
 refine⟨_,h',k,rfl,lv',ev',⟨sb,pz,m.st.keep st.next fun b lb hb=>st.old b lb fun q=>m.ds b (tc b q) hb,fun b hb hq=>?_,m.tg,m.sl⟩,fun b hb=>?_,st.next,fun b lb hb=>st.old b lb fun q=>hb (tf b q)⟩
 ·rcases hb with q|q
  ·rcases sf b q with q|q
   ·exact m.ds b (.inl q) hq
   ·have:=m.st.lt hq;omega
  ·exact m.ds b (.inr q) hq
 ·rcases hb with(q|q)|q
  ·exact(sf b q).imp (fun q=>.inl (.inl q)) id
  ·exact .inl (.inl (.inr q))
  ·exact .inl (.inr q)
structure WLE(tag n m:Nat)(ws:List Int)(l:List AccT)(es:List EvT):Prop where
 wi:WInv tag n n ws m
 nw:n<=ws.length
 ll:l.length<=m
 le:es.length<=m
 wl:ws.length<=65536
theorem WLE.mono{tag n m m':Nat}{ws:List Int}{l:List AccT}{es:List EvT}(w:WLE tag n m ws l es)(h:m<=m'):WLE tag n m' ws l es:=
 ⟨⟨w.wi.sz,w.wi.l1,w.wi.l2,fun e=>by
   obtain⟨a,x,b,c,d⟩:=w.wi.l3 e
   exact⟨a,x,b,c,by omega⟩⟩,w.nw,Nat.le_trans w.ll h,Nat.le_trans w.le h,w.wl⟩
theorem WLE.st{tag n m:Nat}{ws:List Int}{l:List AccT}{es:List EvT}(w:WLE tag n m ws l es)(s:Nat)(t:Int)(d:Nat):WLE tag n (m+1) (stK tag n s t d ws l).2.2.1 (stK tag n s t d ws l).2.2.2 (if(stK tag n s t d ws l).2.1 then es++[⟨0,t,1,0⟩]else es):=by
 have he:(if(stK tag n s t d ws l).2.1 then es++[⟨0,t,1,0⟩]else es).length<=m+1:=by
  have:=w.le
  cases(stK tag n s t d ws l).2.1 with
  |true=>rw[if_pos rfl,List.length_append];show es.length+1<=_;omega
  |false=>rw[if_neg (by decide)];omega
 have hl:(stK tag n s t d ws l).2.2.2.length<=m+1∧(stK tag n s t d ws l).2.2.1.length=ws.length:=by
  have:=w.ll
  unfold stK
  split<;>refine⟨?_,?_⟩<;>simp only[List.length_append,List.length_cons,List.length_nil,List.length_set]<;>omega
 refine⟨⟨w.wi.sz,fun e=>by rw[hl.2];exact w.wi.l1 e,fun e=>by rw[hl.2];exact w.wi.l2 e,fun e=>?_⟩,by rw[hl.2];exact w.nw,hl.1,he,by rw[hl.2];exact w.wl⟩
 obtain⟨a,x,b,c,dd⟩:=w.wi.l3 e
 subst e
 have h1:n+1<ws.length:=(List.getElem?_eq_some_iff.1 b).1
 match d with
 |0=>exact⟨a,x,b,c,by omega⟩
 |1=>
  show(ws.set (n+1) ((ws[n+1]?).getD 0+1))[n]?=some 0∧∃x,(ws.set (n+1) ((ws[n+1]?).getD 0+1))[n+1]?=some x∧0<=x∧x<=((m+1:Nat):Int)
  rw[List.getElem?_set_ne (by omega),List.getElem?_set_self h1,b]
  exact⟨a,x+1,rfl,by omega,by omega⟩
 |d+2=>exact⟨a,x,b,c,by omega⟩
theorem WLE.set{tag n m:Nat}{ws:List Int}{l:List AccT}{es:List EvT}(w:WLE tag n m ws l es){i:Nat}(hi:i<n)(z:Int)(a:AccT):WLE tag n (m+1) (ws.set i z) (l++[a]) es:=by
 refine⟨⟨w.wi.sz,fun e=>by rw[List.length_set];exact w.wi.l1 e,fun e=>by rw[List.length_set];exact w.wi.l2 e,fun e=>?_⟩,by rw[List.length_set];exact w.nw,by rw[List.length_append];have:=w.ll;show l.length+1<=_;omega,Nat.le_succ_of_le w.le,by rw[List.length_set];exact w.wl⟩
 obtain⟨a,x,b,c,dd⟩:=w.wi.l3 e
 rw[List.getElem?_set_ne (by omega),List.getElem?_set_ne (by omega)]
 exact⟨a,x,b,c,by omega⟩
structure Two(h:H)(P:Nat->Prop)(a:AdA)(ek:EK)(hL:H)(lv ev:AV)(b:AdB)(z:AdS)(rk:RK)(lv2 ev2:AV)(c:CfgT)(n m:Nat)(ws:List Int)(l:List AccT)(es:List EvT)(nu:List Int):Prop where
 A:SideA h a ek c n hL lv ev ws l es nu
 B:SideB h b z rk c n lv2 ev2 ws l es nu
 d:∀x,footA a ek lv ev hL x->¬footB b z rk lv2 ev2 x
 p:∀x,footA a ek lv ev hL x∨footB b z rk lv2 ev2 x->¬P x
 w:WLE ek.tag n m ws l es
 n64:n<=64
 nu01:∀(i:Nat) (x:Int),nu[i]?=some x->x=0∨x=1
 lP:∀x,P x->x<h.next
def TwoS(hL h:H)(P:Nat->Prop)(A B:Nat)(c:CfgT)(n m:Nat)(nu:List Int):Prop:=∃a ek lv ev b z rk lv2 ev2 ws l es,a.A=A∧b.B=B∧Two h P a ek hL lv ev b z rk lv2 ev2 c n m ws l es nu
structure Kp2(P:Nat->Prop)(h h':H):Prop where
 next:h.next<=h'.next
 old:∀x,P x->h'.t.get x=h.t.get x
theorem Kp2.trans{P:Nat->Prop}{a b c:H}(h:Kp2 P a b)(k:Kp2 P b c):Kp2 P a c:=⟨Nat.le_trans h.next k.next,fun x hx=>(k.old x hx).trans (h.old x hx)⟩
theorem tag_eq{ek:EK}{rk:RK}{c:CfgT}(h1:(ek.tag:Int)=c.engine)(h2:(rk.tag:Int)=c.engine):rk.tag=ek.tag:=by omega
theorem Two.keep{h h':H}{P:Nat->Prop}{a:AdA}{ek:EK}{hL:H}{lv ev:AV}{b:AdB}{z:AdS}{rk:RK}{lv2 ev2:AV}{c:CfgT}{n m:Nat}{ws:List Int}{l:List AccT}{es:List EvT}{nu:List Int}(t:Two h P a ek hL lv ev b z rk lv2 ev2 c n m ws l es nu)(hn:h.next<=h'.next)(k:∀x,x<h.next->¬P x->h'.t.get x=h.t.get x):Two h' P a ek hL lv ev b z rk lv2 ev2 c n m ws l es nu:=
 ⟨t.A.keep hn fun x lx hx=>k x lx (t.p x (.inl hx)),t.B.keep hn fun x lx hx=>k x lx (t.p x (.inr hx)),t.d,t.p,t.w,t.n64,t.nu01,fun x hx=>Nat.lt_of_lt_of_le (t.lP x hx) hn⟩
theorem TwoS.step{hL h h':H}{P:Nat->Prop}{A B:Nat}{c:CfgT}{n m:Nat}{nu:List Int}(t:TwoS hL h P A B c n m nu)(s:StepN h h'):TwoS hL h' P A B c n m nu:=by
 obtain⟨a,ek,lv,ev,b,z,rk,lv2,ev2,ws,l,es,ea,eb,t⟩:=t
 exact⟨a,ek,lv,ev,b,z,rk,lv2,ev2,ws,l,es,ea,eb,t.keep s.next fun x lx _=>s.old x lx⟩
theorem TwoS.fz{hL h:H}{P:Nat->Prop}{A B:Nat}{c:CfgT}{n m:Nat}{nu:List Int}(t:TwoS hL h P A B c n m nu):StepN hL h:=by
 obtain⟨a,ek,lv,ev,b,z,rk,lv2,ev2,ws,l,es,ea,eb,t⟩:=t
 exact t.A.st.fz
theorem TwoS.more{hL h:H}{P P':Nat->Prop}{A B:Nat}{c:CfgT}{n m:Nat}{nu:List Int}{h0:H}(t:TwoS hL h0 P A B c n m nu)(s:StepN h0 h)(hp:∀x,P' x->x<h.next∧(P x∨h0.next<=x)):TwoS hL h P' A B c n m nu:=by
 obtain⟨a,ek,lv,ev,b,z,rk,lv2,ev2,ws,l,es,ea,eb,t⟩:=t
 have t2:=t.keep s.next fun x lx _=>s.old x lx
 refine⟨a,ek,lv,ev,b,z,rk,lv2,ev2,ws,l,es,ea,eb,⟨t2.A,t2.B,t2.d,fun x hx hq=>?_,t2.w,t2.n64,t2.nu01,fun x hx=>(hp x hx).1⟩⟩
 rcases(hp x hq).2 with q|q
 ·exact t.p x hx q
 ·have:x<h0.next:=hx.elim t.A.lt t.B.lt
  omega
structure TwoQ(h:H)(P:Nat->Prop)(a:AdA)(ek:EK)(hL:H)(lv ev:AV)(X Y Q Z:Nat)(b:AdB)(z:AdS)(rk:RK)(lv2 ev2:AV)(X2 Q2 Z2:Nat)(c:CfgT)(n m:Nat)(ws:List Int)(l:List AccT)(es:List EvT)(nu:List Int)(t:Int)(s d:Nat):Prop where
 A:SidePA h a ek c n hL lv ev ws l es nu t s X Y Q Z d
 B:SidePB h b z rk c n lv2 ev2 ws l es nu t s X2 Q2 Z2 d
 d:∀x,footPA a ek lv ev hL X Y Q Z x->¬footPB b z rk lv2 ev2 X2 Q2 Z2 x
 p:∀x,footPA a ek lv ev hL X Y Q Z x∨footPB b z rk lv2 ev2 X2 Q2 Z2 x->¬P x
 w:WLE ek.tag n m ws l es
 n64:n<=64
 nu01:∀(i:Nat) (x:Int),nu[i]?=some x->x=0∨x=1
 lP:∀x,P x->x<h.next
def TwoP(hL h:H)(P:Nat->Prop)(A B:Nat)(c:CfgT)(n m:Nat)(nu:List Int)(t:Int)(s Z Z2 d:Nat):Prop:=∃a ek lv ev X Y Q b z rk lv2 ev2 X2 Q2 ws l es,a.A=A∧b.B=B∧TwoQ h P a ek hL lv ev X Y Q Z b z rk lv2 ev2 X2 Q2 Z2 c n m ws l es nu t s d
theorem TwoP.done{hL h:H}{P:Nat->Prop}{A B:Nat}{c:CfgT}{n m:Nat}{nu:List Int}{t:Int}{s Z Z2 d:Nat}(q:TwoP hL h P A B c n m nu t s Z Z2 (d+2)):TwoS hL h P A B c n m (nu.set s 1):=by
 obtain⟨a,ek,lv,ev,X,Y,Q,b,z,rk,lv2,ev2,X2,Q2,ws,l,es,ea,eb,q⟩:=q
 have fa:∀x,footA a (ek.add Y) lv ev hL x->footPA a ek lv ev hL X Y Q Z x:=fun x hx=>by
  rcases hx with hx|hx|hx
  ·exact .inl (.inl hx)
  ·exact(EK.add_F hx).elim (fun q=>.inl (.inr (.inl q))) fun q=>.inr (.inr (.inl q))
  ·exact .inl (.inr (.inr hx))
 refine⟨a,ek.add Y,lv,ev,b,z,rk,lv2,ev2,ws,l,es,ea,eb,⟨q.A.done,q.B.done,fun x hx hy=>q.d x (fa x hx) (.inl hy),fun x hx=>q.p x (hx.imp (fa x) .inl),by rw[(ek.add_tag Y).1];exact q.w,q.n64,fun i x hx=>?_,q.lP⟩⟩
 rw[List.getElem?_set]at hx
 split at hx
 ·split at hx
  ·exact .inr (Option.some.inj hx).symm
  ·cases hx
 ·exact q.nu01 i x hx
theorem two_enter{call:CallE}(h8:F8 call)(h9:F9 call){hL h:H}{P:Nat->Prop}{A B:Nat}{c:CfgT}{n m:Nat}{nu:List Int}(q:TwoS hL h P A B c n m nu){t:Int}(t0:0<=t)(t1:t<64){s:Nat}(hs:s<n){x:Int}(hx:nu[s]?=some x):
 ∃v1 h1,call 8 [.ptr A 0,.int .i64 t,.int .i64 (s:Int),.int .i64 0] h=some (v1,h1)∧∃v2 h2,call 9 [.ptr B 0,.int .i64 t,.int .i64 (s:Int),.int .i64 0] h1=some (v2,h2)∧Kp2 P h h1∧Kp2 P h h2∧((v1=.tup [.nilp,.int .i64 8]∧v2=.tup [.nilp,.int .i64 8]∧TwoS hL h2 P A B c n m nu)∨∃Z Z2,v1=.tup [.ptr Z 0,.int .i64 0]∧v2=.tup [.ptr Z2 0,.int .i64 0]∧TwoP hL h2 P A B c n m nu t s Z Z2 0):=by
 obtain⟨a,ek,lv,ev,b,z,rk,lv2,ev2,ws,l,es,rfl,rfl,q⟩:=q
 have x1:=q.nu01 s x hx
 obtain⟨v1,h1,k1,p1⟩:=enterA h8 q.A q.n64 t0 t1 hs hx x1
 have n1:h.next<=h1.next:=by
  rcases p1 with⟨_,_,st⟩|⟨_,X,Y,Q,Z,_,_,_,_,_,_,st⟩
  ·exact st.next
  ·exact st.next
 have o1:∀y,y<h.next->¬footA a ek lv ev hL y->h1.t.get y=h.t.get y:=fun y ly hy=>by
  rcases p1 with⟨_,_,st⟩|⟨_,X,Y,Q,Z,_,_,_,_,_,_,st⟩
  ·exact st.old y ly
  ·exact st.old y ly hy
 have B1:=q.B.keep n1 fun y ly hy=>o1 y ly fun hq=>q.d y hq hy
 obtain⟨v2,h2,k2,p2⟩:=enterB h9 B1 q.n64 t0 t1 hs hx x1
 have n2:h1.next<=h2.next:=by
  rcases p2 with⟨_,_,st⟩|⟨_,X,Q,Z,_,_,_,_,_,st⟩
  ·exact st.next
  ·exact st.next
 have o2:∀y,y<h1.next->¬footB b z rk lv2 ev2 y->h2.t.get y=h1.t.get y:=fun y ly hy=>by
  rcases p2 with⟨_,_,st⟩|⟨_,X,Q,Z,_,_,_,_,_,st⟩
  ·exact st.old y ly
  ·exact st.old y ly hy
 refine⟨v1,h1,k1,v2,h2,k2,⟨n1,fun y hy=>o1 y (q.lP y hy) fun hq=>q.p y (.inl hq) hy⟩,⟨Nat.le_trans n1 n2,fun y hy=>(o2 y (Nat.lt_of_lt_of_le (q.lP y hy) n1) fun hq=>q.p y (.inr hq) hy).trans (o1 y (q.lP y hy) fun hq=>q.p y (.inl hq) hy)⟩,?_⟩
 rcases p1 with⟨rfl,rfl,st⟩|⟨rfl,X,Y,Q,Z,rfl,oX,oY,oQ,oZ,sp,st⟩
 ·rcases p2 with⟨_,rfl,st2⟩|⟨e,_⟩
  ·exact .inl ⟨rfl,rfl,a,ek,lv,ev,b,z,rk,lv2,ev2,ws,l,es,rfl,rfl,(q.keep st.next fun x lx _=>st.old x lx).keep st2.next fun x lx _=>st2.old x lx⟩
  ·cases e
 ·rcases p2 with⟨e,_⟩|⟨_,X2,Q2,Z2,rfl,oX2,oQ2,oZ2,sp2,st2⟩
  ·cases e
  ·have A2:=sp.keep n2 fun y ly hy=>st2.old y ly fun hq=>by
        rcases hy with hy|hy
        ·exact q.d y hy hq
        ·have:=q.B.lt hq
         rcases hy with hy|hy|hy|hy<;>omega
   refine .inr ⟨Z,Z2,rfl,rfl,a,ek,lv,ev,X,Y,Q,b,z,rk,lv2,ev2,X2,Q2,ws,l,es,rfl,rfl,⟨A2,sp2,fun y hy hq=>?_,fun y hy hq=>?_,q.w,q.n64,q.nu01,fun y hy=>Nat.lt_of_lt_of_le (q.lP y hy) (Nat.le_trans n1 n2)⟩⟩
   ·have ly:y<h1.next:=sp.lt hy
    rcases hq with hq|hq
    ·rcases hy with hy|hy
     ·exact q.d y hy hq
     ·have:=q.B.lt hq
      rcases hy with hy|hy|hy|hy<;>omega
    ·rcases hq with hq|hq|hq<;>omega
   ·have ly:=q.lP y hq
    rcases hy with(hy|hy)|(hy|hy)
    ·exact q.p y (.inl hy) hq
    ·rcases hy with hy|hy|hy|hy<;>omega
    ·exact q.p y (.inr hy) hq
    ·rcases hy with hy|hy|hy<;>omega
theorem two_step{call:CallE}(h10:F10 call)(h11:F11 call){hL h:H}{P:Nat->Prop}{A B:Nat}{c:CfgT}{n m:Nat}{nu:List Int}{t:Int}{s Z Z2 d:Nat}(q:TwoP hL h P A B c n m nu t s Z Z2 d)(hm:m<=900)(t0:0<=t)(t1:t<64):
 ∃v1 h1,call 10 [.ptr Z 0] h=some (v1,h1)∧∃v2 h2,call 11 [.ptr Z2 0] h1=some (v2,h2)∧Kp2 P h h1∧Kp2 P h h2∧TwoP hL h2 P A B c n (m+1) nu t s Z Z2 (d+1):=by
 obtain⟨a,ek,lv,ev,X,Y,Q,b,z,rk,lv2,ev2,X2,Q2,ws,l,es,rfl,rfl,q⟩:=q
 have hw:=q.w
 have wi:WInv ek.tag n n ws 1000:=(hw.mono (m':=1000) (by omega)).wi
 have et:=tag_eq q.A.tg q.B.tg
 obtain⟨v1,h1,k1,rfl,lv',ev',A1,f1,st1⟩:=stepSA h10 q.A q.n64 (by have:=hw.ll;omega) (by have:=hw.le;omega) wi t0 t1
 have B1:=q.B.keep st1.next fun y ly hy=>st1.old y ly fun hq=>q.d y hq hy
 obtain⟨v2,h2,k2,rfl,lv2',ev2',B2,f2,st2⟩:=stepSB h11 B1 q.n64 (by have:=hw.ll;omega) (by have:=hw.le;omega) (by rw[et];exact wi) t0 t1
 rw[et]at B2
 have dis:∀y,footPA a ek lv' ev' hL X Y Q Z y->¬footPB b z rk lv2 ev2 X2 Q2 Z2 y:=fun y hy hq=>by
  rcases f1 y hy with hy|hy
  ·exact q.d y hy hq
  ·have:=q.B.lt hq;omega
 have A2:=A1.keep st2.next fun y ly hy=>st2.old y ly (dis y hy)
 refine⟨_,h1,k1,_,h2,k2,⟨st1.next,fun y hy=>st1.old y (q.lP y hy) fun hq=>q.p y (.inl hq) hy⟩,⟨Nat.le_trans st1.next st2.next,fun y hy=>(st2.old y (Nat.lt_of_lt_of_le (q.lP y hy) st1.next) fun hq=>q.p y (.inr hq) hy).trans (st1.old y (q.lP y hy) fun hq=>q.p y (.inl hq) hy)⟩,a,ek,lv',ev',X,Y,Q,b,z,rk,lv2',ev2',X2,Q2,_,_,_,rfl,rfl,⟨A2,B2,fun y hy hq=>?_,fun y hy hq=>?_,hw.st s t d,q.n64,q.nu01,fun y hy=>Nat.lt_of_lt_of_le (q.lP y hy) (Nat.le_trans st1.next st2.next)⟩⟩
 ·rcases f2 y hq with hq|hq
  ·exact dis y hy hq
  ·have:=A1.lt hy;omega
 ·have ly:=q.lP y hq
  have n1:=st1.next
  rcases hy with hy|hy
  ·rcases f1 y hy with hy|hy
   ·exact q.p y (.inl hy) hq
   ·omega
  ·rcases f2 y hy with hy|hy
   ·exact q.p y (.inr hy) hq
   ·omega
def F6(call:CallE):Prop:=∀h A B L M Q T' R W L2 M2 W2 x ev V G lv lv2 rest ws l l2 (t:Int) (i:Nat) (y z:Int),h.t.get A=some (rowL [.ptr L 0,.ptr M 0,.ptr Q 0,.ptr T' 0,.ptr R 0,x,ev,V,G] 100)->A<h.next->MemL h M W lv ws l->l.length<=900000->h.t.get B=some (rowL (.ptr L2 0::.ptr M2 0::rest) 49)->B<h.next->RMemL h M2 W2 lv2 ws l2->l2.length<=900000->(¬memS M W lv A)->(¬memS M W lv B)->(∀b,memS M2 W2 lv2 b->¬memS M W lv b)->0<=t->t<64->ws[i]?=some y->
 Does call 6 [.agg [.ptr A 0,.ptr B 0],.int .i64 t,.int .i64 (i:Int),.int .u64 z] h fun v h'=>v=.bool true∧∃lv' lv2',MemL h' M W lv' (ws.set i z) (l++[⟨t,(i:Int),2,y,z,false⟩])∧RMemL h' M2 W2 lv2' (ws.set i z) (l2++[⟨t,(i:Int),2,y,z,false⟩])∧(∀b,own lv'=some b->h.next<=b)∧(∀b,own lv2'=some b->h.next<=b∧own lv'≠some b)∧Tch (fun b=>memS M W lv b∨memS M2 W2 lv2 b) h h'
theorem EngA.off{h:H}{M n bs:Nat}{nu:List Int}{ek:EK}(m:EngA h M n bs nu ek){b:Nat}(hb:engR h ek b):(∀c n e,h.t.get b=some (.row c n e)->e≠197∧e≠194∧e≠296)∨(∃es k,h.t.get b=some (.map es k)):=by
 cases ek with
 |full G N B=>
  have m':FullE h M n bs G N B nu (List.replicate n false):=m
  exact .inl (m'.off hb)
 |each G N F=>
  have m':EachE h M n bs G N F (eZ nu):=m
  exact .inl (m'.off hb)
 |gate G S nb Sx=>
  obtain⟨_,es,m'⟩:=m
  rcases hb with rfl|rfl|⟨_,c,g⟩
  ·exact .inl (offR m'.gG (by decide) (by decide) (by decide))
  ·obtain⟨k,g⟩:=m'.gS
   exact .inr ⟨_,_,g⟩
  ·exact .inl (offR g (by decide) (by decide) (by decide))
theorem EngB.ty2{h:H}{M n bs:Nat}{nu:List Int}{rk:RK}(m:EngB h M n bs nu rk){b:Nat}(hb:rkF rk b):∃c k e,h.t.get b=some (.row c k e)∧(e=362∨e=368∨e=364∨e=375):=by
 cases rk with
 |full G N=>
  have m':TriE h M n bs G N 362 (tZ nu):=m
  rcases hb with rfl|rfl
  ·exact⟨_,_,_,m'.gG,by simp⟩
  ·exact⟨_,_,_,m'.gN,by simp⟩
 |each G N=>
  have m':TriE h M n bs G N 368 (tZ nu):=m
  rcases hb with rfl|rfl
  ·exact⟨_,_,_,m'.gG,by simp⟩
  ·exact⟨_,_,_,m'.gN,by simp⟩
 |gate G nb=>
  obtain rfl:b=G:=hb
  exact⟨_,_,_,m.2.gG,by simp⟩
theorem two_store{call:CallE}(h6:F6 call){hL h:H}{P:Nat->Prop}{A B:Nat}{c:CfgT}{n m:Nat}{nu:List Int}(q:TwoS hL h P A B c n m nu)(hm:m<=900){t:Int}(t0:0<=t)(t1:t<64){i:Nat}(hi:i<n)(z:Int):
 ∃h1,call 6 [.agg [.ptr A 0,.ptr B 0],.int .i64 t,.int .i64 (i:Int),.int .u64 z] h=some (.bool true,h1)∧Kp2 P h h1∧TwoS hL h1 P A B c n (m+1) nu:=by
 obtain⟨a,ek,lv,ev,b,zz,rk,lv2,ev2,ws,l,es,rfl,rfl,q⟩:=q
 have hw:=q.w
 have sa:=q.A.sa
 have sb:=q.B.sb
 have hlt:i<ws.length:=by have:=hw.nw;omega
 obtain⟨y,hy⟩:∃y,ws[i]?=some y:=⟨_,List.getElem?_eq_getElem hlt⟩
 have ll:=hw.ll
 have fA:∀x,memS a.M a.W lv x->footA a ek lv ev hL x:=fun x hx=>.inl (.inl hx)
 have fB:∀x,memS b.M b.W lv2 x->footB b zz rk lv2 ev2 x:=fun x hx=>.inl (.inl hx)
 obtain⟨v,h1,k1,rfl,lv',lv2',m1,m2,o1,o2,st⟩:=h6 h a.A b.B a.L a.M a.Po a.To a.R a.W b.L b.M b.W .nils ev (.map a.V) (.map a.Gm) lv lv2 _ ws l l t i y z sa.gA sa.lA sa.mm (by omega) sb.gB sb.lB sb.mm (by omega) (sa.mm.off (offR sa.gA (by decide) (by decide) (by decide))) (fun hq=>q.d _ (fA _ hq) (.inl (.inr (.inl rfl)))) (fun x hx hq=>q.d x (fA x hq) (fB x hx)) t0 t1 hy
 obtain⟨mv,clk,gV,iV⟩:=sa.gV
 have kA:∀x,x<h.next->footA a ek lv ev hL x->¬memS a.M a.W lv x->h1.t.get x=h.t.get x:=fun x lx hx hn=>st.old x lx fun hq=>hq.elim hn fun hq=>q.d x hx (fB x hq)
 have kB:∀x,x<h.next->footB b zz rk lv2 ev2 x->¬memS b.M b.W lv2 x->h1.t.get x=h.t.get x:=fun x lx hx hn=>st.old x lx fun hq=>hq.elim (fun hq=>q.d x (fA x hq) hx) hn
 have nx:=st.next
 have l2:∀{x},x<h.next->x<h1.next:=fun hx=>Nat.lt_of_lt_of_le hx nx
 have sa1:SA h1 a ek n lv' ev (ws.set i z) (l++[⟨t,(i:Int),2,y,z,false⟩]) es:=⟨m1,(kA _ sa.lA (.inl (.inr (.inl rfl))) (sa.mm.off (offR sa.gA (by decide) (by decide) (by decide)))).trans sa.gA,sa.oe.keep nx fun x hx=>by
  obtain⟨c',k',g⟩:=own_row sa.oe hx
  exact kA x (sa.oe.lt hx) (.inl (.inr (.inr (.inl hx)))) (sa.mm.off (offR g (by decide) (by decide) (by decide))),⟨mv,clk,(kA _ sa.lV (.inl (.inr (.inr (.inr (.inl rfl))))) (sa.mm.off (offM gV))).trans gV,iV⟩,(kA _ sa.lR (.inl (.inr (.inr (.inr (.inr rfl))))) (sa.mm.off (offR sa.gR (by decide) (by decide) (by decide)))).trans sa.gR,l2 sa.lA,l2 sa.lV,l2 sa.lR⟩
 have sb1:SB h1 b rk n lv2' ev2 (ws.set i z) (l++[⟨t,(i:Int),2,y,z,false⟩]) es:=by
  obtain⟨cr,kr,eR⟩:=rkRow rk n
  have gR:=sb.gR
  rw[eR]at gR
  exact⟨m2,(kB _ sb.lB (.inl (.inr (.inl rfl))) (sb.mm.off (offQ sb.gB (by decide) (by decide) (by decide)))).trans sb.gB,sb.oe.keep nx fun x hx=>by
   obtain⟨c',k',g⟩:=own_row sb.oe hx
   exact kB x (sb.oe.lt hx) (.inl (.inr (.inr (.inl hx)))) (sb.mm.off (offQ g (by decide) (by decide) (by decide))),by obtain⟨cs,gV,hl⟩:=sb.gV;exact⟨cs,(kB _ sb.lV (.inl (.inr (.inr (.inr (.inl rfl))))) (sb.mm.off (offQ gV (by decide) (by decide) (by decide)))).trans gV,hl⟩,(kB _ sb.lR (.inl (.inr (.inr (.inr (.inr rfl))))) (sb.mm.off (offQ gR (by decide) (by decide) (by decide)))).trans sb.gR,l2 sb.lB,l2 sb.lV,l2 sb.lR⟩
 have en1:EngA h1 a.M n n nu ek:=q.A.en.keep nx fun x lx hx=>by
  rcases q.A.en.off hx with ho|⟨es',k',g⟩
  ·exact kA x lx (.inr (.inl hx.f)) (sa.mm.off ho)
  ·exact kA x lx (.inr (.inl hx.f)) (sa.mm.off (offM g))
 have eb1:EngB h1 b.M n n nu rk:=q.B.en.keep nx fun x lx hx=>by
  obtain⟨c',k',e',g,o⟩:=q.B.en.ty2 hx
  exact kB x lx (.inr (.inl hx)) (sb.mm.off (offQ g (by rintro rfl;revert o;decide) (by rintro rfl;revert o;decide) (by rintro rfl;revert o;decide)))
 have sfA:∀x,saF a lv' ev x->saF a lv ev x∨h.next<=x:=fun x hx=>by
  rcases hx with(hx|hx|hx)|hx
  ·exact .inl (.inl (.inl hx))
  ·exact .inl (.inl (.inr (.inl hx)))
  ·exact .inr (o1 x hx)
  ·exact .inl (.inr hx)
 have sfB:∀x,sbF b lv2' ev2 x->sbF b lv2 ev2 x∨h.next<=x∧own lv'≠some x:=fun x hx=>by
  rcases hx with(hx|hx|hx)|hx
  ·exact .inl (.inl (.inl hx))
  ·exact .inl (.inl (.inr (.inl hx)))
  ·exact .inr (o2 x hx)
  ·exact .inl (.inr hx)
 refine⟨h1,k1,⟨nx,fun x hx=>st.old x (q.lP x hx) fun hq=>hq.elim (fun hq=>q.p x (.inl (fA x hq)) hx) fun hq=>q.p x (.inr (fB x hq)) hx⟩,a,ek,lv',ev,b,zz,rk,lv2',ev2,_,_,_,rfl,rfl,⟨⟨sa1,en1,q.A.vs,q.A.st.keep nx fun x lx hx=>kA x lx (.inr (.inr hx)) fun hq=>q.A.ds x (.inl (.inl hq)) hx,fun x hx hq=>?_,fun x hx=>l2 (q.A.el x hx),q.A.tg,q.A.sl⟩,⟨sb1,eb1,q.B.st.keep nx fun x lx hx=>kB x lx (.inr (.inr hx)) fun hq=>q.B.ds x (.inl (.inl hq)) hx,fun x hx hq=>?_,q.B.tg,q.B.sl⟩,fun x hx hq=>?_,fun x hx hq=>?_,hw.set hi z _,q.n64,q.nu01,fun x hx=>l2 (q.lP x hx)⟩⟩
 ·rcases hx with hx|hx
  ·rcases sfA x hx with hx|hx
   ·exact q.A.ds x (.inl hx) hq
   ·have:=q.A.st.lt hq;omega
  ·exact q.A.ds x (.inr hx) hq
 ·rcases hx with hx|hx
  ·rcases sfB x hx with hx|hx
   ·exact q.B.ds x (.inl hx) hq
   ·have:=q.B.st.lt hq;omega
  ·exact q.B.ds x (.inr hx) hq
 ·have gA:footA a ek lv ev hL x∨h.next<=x∧own lv'=some x:=by
   rcases hx with(hx|hx)|hx
   ·rcases hx with hx|hx|hx
    ·exact .inl (.inl (.inl (.inl hx)))
    ·exact .inl (.inl (.inl (.inr (.inl hx))))
    ·exact .inr ⟨o1 x hx,hx⟩
   ·exact .inl (.inl (.inr hx))
   ·exact .inl (.inr hx)
  have gB:footB b zz rk lv2 ev2 x∨h.next<=x∧own lv'≠some x:=by
   rcases hq with hq|hq
   ·exact(sfB x hq).imp .inl id
   ·exact .inl (.inr hq)
  rcases gA with gA|⟨gA,gA2⟩
  ·rcases gB with gB|gB
   ·exact q.d x gA gB
   ·have:=q.A.lt gA;omega
  ·rcases gB with gB|⟨_,gB⟩
   ·have:=q.B.lt gB;omega
   ·exact gB gA2
 ·have ly:=q.lP x hq
  rcases hx with(hx|hx)|(hx|hx)
  ·rcases sfA x hx with hx|hx
   ·exact q.p x (.inl (.inl hx)) hq
   ·omega
  ·exact q.p x (.inl (.inr hx)) hq
  ·rcases sfB x hx with hx|hx
   ·exact q.p x (.inr (.inl hx)) hq
   ·omega
  ·exact q.p x (.inr (.inr hx)) hq
def c426_l10:CC:=(Sq [qb 13 3 12 11] (Qq (Cq 13 .skip (.exit 0)) (Qq (.block 1 (Sq [a 14 12,a 4 14] (Sq [a 15 0,a 16 4,Z 17 430 15 16] (Cq 17 (Oq [a 18 3,a 19 4,qu 20 3 1 1 0 0 1 19,qj 21 3 1 8 18 20,a 3 21]) .skip)))) (Oq [C 22 3 12 1,a 12 22]))))
@[go_sem]def c426:CF:=⟨1,(Sq [D 2] (Qq (Sq [a 5 0,u 6 327 5] (Kq 6 [D 2] .skip)) (Sq [D 3] (Qq (Sq [a 7 0,m 8 7,d 9 2 8,i 10 9,A 11 10,b 12 0] (.block 0 (.loop c426_l10))) (Rq [a 23 3,a 2 23]))))),[.tmp 2]⟩
def c442_l10:CC:=(Sq [qb 14 3 13 12] (Qq (Cq 14 .skip (.exit 0)) (Qq (.block 1 (Sq [a 15 13,E 16 2 11 13,V 17 2 16,⟨some 5,none,.n (.new 593 [.int .u64 0,.bool false])⟩,a 4 15,t 2 5 17] (Sq [d 18 0 5,i 19 18,ji 20 51 19 2,jj 21 51 20 1] (Cq 21 (Oq [a 22 3,a 23 4,qu 24 3 1 1 0 0 1 23,qj 25 3 1 8 22 24,a 3 25]) .skip)))) (Oq [C 26 3 13 1,a 13 26]))))
@[go_sem]def c442:CF:=⟨1,(Sq [D 2] (Qq (Sq [a 6 0,u 7 334 6] (Kq 7 [D 2] .skip)) (Sq [D 3] (Qq (Sq [a 8 0,m 9 8,d 10 1 9,i 11 10,A 12 11,b 13 0] (.block 0 (.loop c442_l10))) (Rq [a 27 3,a 2 27]))))),[.tmp 2]⟩
def c453_l11:CC:=(Sq [K 10 3 9 64] (Qq (Cq 10 .skip (.exit 0)) (Qq (.block 1 (Sq [a 11 9,a 4 11] (Sq [a 13 0,m 14 13,d 15 3 14,i 16 15,a 17 4,jo 18 0 16 17,a 12 18,o 19 12 0,o 20 12 1,a 5 19,a 6 20] (Sq [a 21 6,a 22 21,B 23 22 5,qm 24 22 23,W 25 22 1 24,Y 26 22 25,O 27 22 26] (Cq 27 (Oq [a 28 3,a 29 4,qu 30 3 1 1 0 0 1 29,qj 31 3 1 8 28 30,a 3 31]) .skip))))) (Oq [C 32 3 9 1,a 9 32]))))
@[go_sem]def c453:CF:=⟨1,(Sq [D 2] (Qq (Sq [a 7 0,u 8 341 7] (Kq 8 [D 2] .skip)) (Sq [D 3] (Qq (Sq [b 9 0] (.block 0 (.loop c453_l11))) (Rq [a 33 3,a 2 33]))))),[.tmp 2]⟩
def c208_l7:CC:=(Qq (Sq [a 5 0,qr 6 210 5,a 7 6,B 8 7 4,B 9 7 0,qm 10 7 9,W 11 7 2 10,Y 12 7 11,ql 13 7 12,qS 14 7 3 8 13,O 15 7 14] (Cq 15 .skip (.exit 0))) (Qq (.block 1 (Sq [a 18 0,m 19 18,d 20 2 19,i 21 20,a 22 4,E 23 3 21 22,d 24 2 23,i 25 24] (Cq 25 (Oq [a 26 3,a 27 4,qu 28 3 1 1 0 0 1 27,qj 29 3 1 8 26 28,a 3 29]) .skip))) (Oq [a 16 4,C 17 3 16 1,a 4 17])))
@[go_sem]def c208:CF:=⟨1,(Sq [D 2] (Sq [D 3] (Qq (Sq [b 4 0] (.block 0 (.loop c208_l7))) (Rq [a 30 3,a 2 30])))),[.tmp 2]⟩
def c209_l7:CC:=(Qq (Sq [a 5 0,qr 6 211 5,a 7 6,B 8 7 4,B 9 7 0,qm 10 7 9,W 11 7 2 10,Y 12 7 11,ql 13 7 12,qS 14 7 3 8 13,O 15 7 14] (Cq 15 .skip (.exit 0))) (Qq (.block 1 (Sq [a 18 0,m 19 18,d 20 2 19,i 21 20,a 22 4,E 23 3 21 22,d 24 2 23,i 25 24] (Cq 25 (Oq [a 26 3,a 27 4,qu 28 3 1 1 0 0 1 27,qj 29 3 1 8 26 28,a 3 29]) .skip))) (Oq [a 16 4,C 17 3 16 1,a 4 17])))
@[go_sem]def c209:CF:=⟨1,(Sq [D 2] (Sq [D 3] (Qq (Sq [b 4 0] (.block 0 (.loop c209_l7))) (Rq [a 30 3,a 2 30])))),[.tmp 2]⟩
def c210_l7:CC:=(Qq (Sq [a 5 0,qr 6 212 5,a 7 6,B 8 7 4,qy 9 7 3 8 64,O 10 7 9] (Cq 10 .skip (.exit 0))) (Qq (.block 1 (Sq [a 13 0,a 14 4,m 15 13,d 16 3 15,qs 17 64 4 16 14,d 18 1 17,i 19 18] (Cq 19 (Oq [a 20 3,a 21 4,qu 22 3 1 1 0 0 1 21,qj 23 3 1 8 20 22,a 3 23]) .skip))) (Oq [a 11 4,C 12 3 11 1,a 4 12])))
@[go_sem]def c210:CF:=⟨1,(Sq [D 2] (Sq [D 3] (Qq (Sq [b 4 0] (.block 0 (.loop c210_l7))) (Rq [a 24 3,a 2 24])))),[.tmp 2]⟩
def opn(nu:List Int):Nat->List Int
 |0=>[]
 |i+1=>opn nu i++(if nu[i]?=some 1 then[(i:Int)]else[])
theorem opn_len(nu:List Int):∀i,(opn nu i).length<=i
 |0=>Nat.le_refl _
 |i+1=>by
  have:=opn_len nu i
  unfold opn
  rw[List.length_append]
  split
  ·show _+1<=_;omega
  ·show _+0<=_;omega
theorem opn_mem(nu:List Int):∀(i:Nat) (s:Nat),s<i->((s:Int)∈opn nu i↔nu[s]?=some 1)
 |0,s,h=>by omega
 |i+1,s,h=>by
  unfold opn
  rw[List.mem_append]
  by_cases e:s=i
  ·subst e
   have hn:¬(s:Int)∈opn nu s:=fun hm=>by
    have:∀(j:Nat) (x:Int),x∈opn nu j->x<j:=fun j=>by
     induction j with
     |zero=>intro x hx;cases hx
     |succ j ih=>
      intro x hx
      unfold opn at hx
      rcases List.mem_append.1 hx with hx|hx
      ·have:=ih x hx;omega
      ·split at hx
       ·rw[List.mem_singleton.1 hx];omega
       ·cases hx
    have:=this s _ hm
    omega
   constructor
   ·rintro (hm|hm)
    ·exact absurd hm hn
    ·split at hm
     ·assumption
     ·cases hm
   ·intro hx
    rw[if_pos hx]
    exact .inr (List.mem_singleton.2 rfl)
  ·have ih:=opn_mem nu i s (by omega)
   constructor
   ·rintro (hm|hm)
    ·exact ih.1 hm
    ·split at hm
     ·have:=List.mem_singleton.1 hm;omega
     ·cases hm
   ·intro hx
    exact .inl (ih.2 hx)
theorem app_i{HH:H}{lv:AV}{len:Nat}{cs src:List AV}{K:AV×H->Prop}(o:Own 1 3 HH lv len cs)(hs:src.length=1)(hl:len<=1000000)
 (hK:∀X:H,X.next=HH.next+1->Own 1 3 X (.sl HH.next 0 (len+1) 1 none) (len+1) (cs++src)->(∀b,b<HH.next->own lv≠some b->X.t.get b=HH.t.get b)->K (.sl HH.next 0 (len+1) 1 none,X)):@optI _ (appA HH 3 1 8 lv 1 src) ⟨K⟩:=
 opt_some (appA_own o (by decide) (by decide) (by omega) (by omega)) (hK _ rfl (own_app o (by decide) hs) fun b hb hn=>app_get hb hn)
structure Lst(h0 h:H)(v:AV)(xs:List Int):Prop where
 o:Own 1 3 h v xs.length (iL xs)
 lo:∀b,own v=some b->h0.next<=b
 st:StepN h0 h
theorem Lst.step{h0 h h':H}{v:AV}{xs:List Int}(m:Lst h0 h v xs)(s:StepN h h'):Lst h0 h' v xs:=⟨m.o.keep s.next fun b hb=>s.old b (m.o.lt hb),m.lo,m.st.trans s⟩
theorem Lst.app{h0 h HH:H}{v:AV}{xs:List Int}{x:Int}{K:AV×H->Prop}(m:Lst h0 h v xs)(s:StepN h HH)(hl:xs.length<=1000)(hK:∀X v',Lst h0 X v' (xs++[x])->StepN h0 X->HH.next<=X.next->(∀b,b<h0.next->X.t.get b=h0.t.get b)->oneA v'=true->K (v',X)):@optI _ (appA HH 3 1 8 v 1 [.int .i64 x]) ⟨K⟩:=by
 have m1:=m.step s
 refine app_i m1.o rfl (by omega) fun X nX oX kX=>?_
 have e:iL (xs++[x])=iL xs++[.int .i64 x]:=by unfold iL;rw[List.map_append];rfl
 have st:StepN h0 X:=⟨by have:=m1.st.next;omega,fun b hb=>(kX b (Nat.lt_of_lt_of_le hb m1.st.next) fun q=>by have:=m1.lo b q;omega).trans (m1.st.old b hb)⟩
 refine hK X _ ⟨by rw[e,List.length_append];exact oX,fun b hb=>?_,st⟩ st (by omega) st.old rfl
 have:HH.next=b:=Option.some.inj hb
 have:=m1.st.next
 omega
def Iop(h0:H)(G:Nat)(nu:List Int)(n tc tl:Nat)(tv:AV)(k:Nat)(tm:T AV)(h:H):Prop:=
 tm.get 0=some (.ptr G 0)∧tm.get tl=some tv∧∃(i:Nat) (v:AV),i+k=n∧tm.get tc=some (.int .i64 (i:Int))∧tm.get 3=some v∧Lst h0 h v (opn nu i)
theorem eachC_take:∀(l:List (Int×Bool)) (s:Nat) (x:Int) (b:Bool),l[s]?=some (x,b)->((eachC l).drop (s*2)).take 2=[.int .u64 x,.bool b]
 | [],s,x,b,h=>by simp at h
 |p::l,0,x,b,h=>by
  simp only[List.getElem?_cons_zero,Option.some.injEq]at h
  subst h
  rfl
 |p::l,s+1,x,b,h=>by
  rw[Nat.add_mul]
  exact eachC_take l s x b (by simpa using h)
def PostO(nu:List Int)(n:Nat)(h:H)(v:AV)(h':H):Prop:=Lst h h' v (opn nu n)
theorem step426(h430:F430 call){h0:H}{M n bs G N B:Nat}{nu:List Int}{bg:List Bool}(m:FullE h0 M n bs G N B nu bg)(hn:n<=64)(nu01:∀(i:Nat) (x:Int),nu[i]?=some x->x=0∨x=1)(k:Nat)(tm:T AV)(h:H)(hI:Iop h0 G nu n 12 11 (.int .i64 (n:Int)) k tm h):
 WC P call c426_l10 (loopQ 0 (fun tm h=>∃j,j<k∧Iop h0 G nu n 12 11 (.int .i64 (n:Int)) j tm h) (fun tm h=>∃v,tm.get 3=some v∧Lst h0 h v (opn nu n)) (fun _ _=>False)) tm h:=by
 obtain⟨t0,tl,i,v,hik,tc,t3,ls⟩:=hI
 have ov:=ls.o.one
 have m1:=m.keep ls.st.next fun b hb=>ls.st.old b (m.lt hb)
 cases k with
 |zero=>
  have e1:¬(i:Int)<n:=by omega
  obtain rfl:i=n:=by omega
  simp only[go_sem,seval,c426_l10,t0,tl,tc,e1]
  exact⟨v,by simp[go_sem,t3],ls⟩
 |succ k=>
  have e1:(i:Int)<n:=by omega
  have f1:fw .i64 ((i:Int)+1)=(i:Int)+1:=fwI (by omega) (by omega)
  have e3:((i+1:Nat):Int)=(i:Int)+1:=rfl
  have hol:=opn_len nu i
  have hi:i<nu.length:=by rw[m.ln];omega
  obtain⟨x,hx⟩:∃x,nu[i]?=some x:=⟨_,List.getElem?_eq_getElem hi⟩
  by_cases hx1:nu[i]?=some 1
  ·have e5:opn nu (i+1)=opn nu i++[(i:Int)]:=by show opn nu i++_=_;rw[if_pos hx1]
   have kc:=h430 h M n bs G N B nu bg i 1 m1 hx1 (.inr rfl)
   simp only[go_sem,seval,c426_l10,t0,tl,tc,e1,kc,t3,ov]
   refine ls.app (StepN.new h _) (by omega) fun X v' l1 st1 nX old' ov'=>?_
   simp only[go_sem,seval,ov',f1,t0,tl,tc]
   exact⟨k,Nat.lt_succ_self k,by simp[go_sem,t0],by simp[go_sem,tl],i+1,v',by omega,by simp[go_sem,e3],by simp[go_sem],by rw[e5];exact l1⟩
  ·have e5:opn nu (i+1)=opn nu i:=by show opn nu i++_=_;rw[if_neg hx1,List.append_nil]
   have kc:=h430 h M n bs G N B nu bg i 0 m1 (by rcases nu01 i x hx with rfl|rfl;exact hx;exact absurd hx hx1) (.inl rfl)
   simp only[go_sem,seval,c426_l10,t0,tl,tc,e1,kc,t3,ov,f1]
   exact⟨k,Nat.lt_succ_self k,by simp[go_sem,t0],by simp[go_sem,tl],i+1,v,by omega,by simp[go_sem,e3],by simp[go_sem,t3],by rw[e5];exact ls⟩
theorem w426(h430:F430 call){h:H}{M n bs G N B:Nat}{nu:List Int}{bg:List Bool}(m:FullE h M n bs G N B nu bg)(hn:n<=64)(nu01:∀(i:Nat) (x:Int),nu[i]?=some x->x=0∨x=1):WF P call c426 [.ptr G 0] h (PostO nu n h):=by
 simp only[go_sem,seval,m.gG]
 refine loop_in (Iop h G nu n 12 11 (.int .i64 (n:Int))) _ _ (fun k tm h' hI=>step426 P h430 m hn nu01 k tm h' hI) (fun tm2 h2 hR=>?_) (fun _ _ hh=>hh.elim) n _ _
  ⟨by simp[go_sem],by simp[go_sem],0,.nils,by omega,by simp[go_sem],by simp[go_sem],.nil,fun b hb=>(by cases hb),StepN.refl _⟩
 obtain⟨v,t3,ls⟩:=hR
 simp only[go_sem,seval,t3]
 exact ls
theorem step442{h0:H}{M n bs G N F:Nat}{nu:List Int}(m:EachE h0 M n bs G N F (eZ nu))(hn:n<=64)(nu01:∀(i:Nat) (x:Int),nu[i]?=some x->x=0∨x=1)(k:Nat)(tm:T AV)(h:H)(hI12:tm.get 12=some (.int .i64 (n:Int)))(hI:Iop h0 G nu n 13 11 (.sl N 0 n 2 (some n)) k tm h):
 WC P call c442_l10 (loopQ 0 (fun tm h=>∃j,j<k∧tm.get 12=some (.int .i64 (n:Int))∧Iop h0 G nu n 13 11 (.sl N 0 n 2 (some n)) j tm h) (fun tm h=>∃v,tm.get 3=some v∧Lst h0 h v (opn nu n)) (fun _ _=>False)) tm h:=by
 obtain⟨t0,tl,i,v,hik,tc,t3,ls⟩:=hI
 have ov:=ls.o.one
 have m1:=m.keep ls.st.next fun b hb=>ls.st.old b (m.lt hb)
 have gN:=m1.gN
 have ln:=m.ln
 unfold eZ at ln
 rw[List.length_map]at ln
 have tl2:=tl
 have t12:=hI12
 cases k with
 |zero=>
  have e1:¬(i:Int)<n:=by omega
  obtain rfl:i=n:=by omega
  simp only[go_sem,seval,c442_l10,t0,tl,tc,e1,hI12]
  exact⟨v,by simp[go_sem,t3],ls⟩
 |succ k=>
  have e1:(i:Int)<n:=by omega
  have f1:fw .i64 ((i:Int)+1)=(i:Int)+1:=fwI (by omega) (by omega)
  have e3:((i+1:Nat):Int)=(i:Int)+1:=rfl
  have hol:=opn_len nu i
  have hi:i<nu.length:=by rw[ln];omega
  obtain⟨x,hx⟩:∃x,nu[i]?=some x:=⟨_,List.getElem?_eq_getElem hi⟩
  have m0:Int.tmod 0 2=0:=rfl
  have m1':Int.tmod 1 2=1:=rfl
  have hcl:(eachC (eZ nu)).length=n*2:=by rw[eachC_len,m.ln]
  have b1:i*2+2<=n*2:=by omega
  have b2:i*2+2<=(eachC (eZ nu)).length:=by omega
  have nNN:¬N=h.next:=by have:=m1.lN;omega
  have st2:∀x y,StepN h ⟨h.next+2,(h.t.set h.next x).set (h.next+1) y⟩:=fun x y=>⟨by show h.next<=h.next+2;omega,fun b hb=>by
   have q1:¬b=h.next:=by omega
   have q2:¬b=h.next+1:=by omega
   simp only[go_sem,seval,q1,q2]⟩
  by_cases hx1:nu[i]?=some 1
  ·have e5:opn nu (i+1)=opn nu i++[(i:Int)]:=by show opn nu i++_=_;rw[if_pos hx1]
   have gt:=eachC_take (eZ nu) i 1 false (eZ_get hx1)
   simp only[go_sem,seval,c442_l10,t0,tl,t12,tc,e1,gN,gt,m0,m1',hcl,b1,b2,t3,ov,nNN]
   refine ls.app (st2 _ _) (by omega) fun X v' l1 st1 nX old' ov'=>?_
   simp only[go_sem,seval,ov',f1,t0,tl,t12,tc]
   exact⟨k,Nat.lt_succ_self k,by simp[go_sem,t0],by simp[go_sem,tl],i+1,v',by omega,by simp[go_sem,e3],by simp[go_sem],by rw[e5];exact l1⟩
  ·have e5:opn nu (i+1)=opn nu i:=by show opn nu i++_=_;rw[if_neg hx1,List.append_nil]
   have hx0:nu[i]?=some 0:=by rcases nu01 i x hx with rfl|rfl;exact hx;exact absurd hx hx1
   have gt:=eachC_take (eZ nu) i 0 false (eZ_get hx0)
   simp only[go_sem,seval,c442_l10,t0,tl,t12,tc,e1,gN,gt,m0,m1',hcl,b1,b2,t3,ov,f1,nNN]
   exact⟨k,Nat.lt_succ_self k,by simp[go_sem,t0],by simp[go_sem,tl],i+1,v,by omega,by simp[go_sem,e3],by simp[go_sem,t3],by rw[e5];exact(ls.step (StepN.new h _))⟩
theorem w442{h:H}{M n bs G N F:Nat}{nu:List Int}(m:EachE h M n bs G N F (eZ nu))(hn:n<=64)(nu01:∀(i:Nat) (x:Int),nu[i]?=some x->x=0∨x=1):WF P call c442 [.ptr G 0] h (PostO nu n h):=by
 simp only[go_sem,seval,m.gG]
 refine loop_in (fun k tm h'=>tm.get 12=some (.int .i64 (n:Int))∧Iop h G nu n 13 11 (.sl N 0 n 2 (some n)) k tm h') _ _ (fun k tm h' hI=>step442 P m hn nu01 k tm h' hI.1 hI.2) (fun tm2 h2 hR=>?_) (fun _ _ hh=>hh.elim) n _ _
  ⟨by simp[go_sem],by simp[go_sem],by simp[go_sem],0,.nils,by omega,by simp[go_sem],by simp[go_sem],.nil,fun b hb=>(by cases hb),StepN.refl _⟩
 obtain⟨v,t3,ls⟩:=hR
 simp only[go_sem,seval,t3]
 exact ls
theorem step453{Sx:Nat->Prop}{h0:H}{M bs nb G S:Nat}{es:List (AV×AV×Nat)}{nu:List Int}(m:GateE Sx h0 M bs nb G S es nu)(nu01:∀(i:Nat) (x:Int),nu[i]?=some x->x=0∨x=1)(k:Nat)(tm:T AV)(h:H)(hI:Iop h0 G nu 64 9 0 (.ptr G 0) k tm h):
 WC P call c453_l11 (loopQ 0 (fun tm h=>∃j,j<k∧Iop h0 G nu 64 9 0 (.ptr G 0) j tm h) (fun tm h=>∃v,tm.get 3=some v∧Lst h0 h v (opn nu 64)) (fun _ _=>False)) tm h:=by
 obtain⟨t0,tl,i,v,hik,tc,t3,ls⟩:=hI
 have ov:=ls.o.one
 have m1:=m.keep ls.st.next fun b lb _=>ls.st.old b lb
 have gG:=m1.gG
 obtain⟨clk,gS⟩:=m1.gS
 cases k with
 |zero=>
  obtain rfl:i=64:=by omega
  have e1:¬((64:Nat):Int)<64:=by omega
  simp only[go_sem,seval,c453_l11,t0,tc,e1]
  exact⟨v,by simp[go_sem,t3],ls⟩
 |succ k=>
  have f1:fw .i64 ((i:Int)+1)=(i:Int)+1:=fwI (by omega) (by omega)
  have e3:((i+1:Nat):Int)=(i:Int)+1:=rfl
  have hol:=opn_len nu i
  have kA:keyA 0 (.int .i64 (i:Int))=true:=rfl
  have e1':(i:Int)<64:=by omega
  by_cases hx1:nu[i]?=some 1
  ·have e5:opn nu (i+1)=opn nu i++[(i:Int)]:=by show opn nu i++_=_;rw[if_pos hx1]
   obtain⟨j,Z,c,hf,gZ,-,-⟩:=(m1.f i (by omega)).1 hx1
   simp only[go_sem,seval,c453_l11,t0,tc,e1',gG,gS,kA,hf,Go.Proofs.YtghmnaojmpjglaaGreatDoor.Eo.evL,gZ,t3,ov]
   refine ls.app (StepN.new h _) (by omega) fun X v' l1 st1 nX old' ov'=>?_
   simp only[go_sem,seval,ov',f1,t0,tc]
   exact⟨k,Nat.lt_succ_self k,by simp[go_sem,t0],by simp[go_sem,t0],i+1,v',by omega,by simp[go_sem,e3],by simp[go_sem],by rw[e5];exact l1⟩
  ·have e5:opn nu (i+1)=opn nu i:=by show opn nu i++_=_;rw[if_neg hx1,List.append_nil]
   have hf:=(m1.f i (by omega)).2 hx1
   simp only[go_sem,seval,c453_l11,t0,tc,e1',gG,gS,kA,hf,Go.Proofs.YtghmnaojmpjglaaGreatDoor.Eo.evL,t3,ov,f1]
   exact⟨k,Nat.lt_succ_self k,by simp[go_sem,t0],by simp[go_sem,t0],i+1,v,by omega,by simp[go_sem,e3],by simp[go_sem,t3],by rw[e5];exact ls⟩
theorem w453{Sx:Nat->Prop}{h:H}{M bs nb G S:Nat}{es:List (AV×AV×Nat)}{nu:List Int}(m:GateE Sx h M bs nb G S es nu)(nu01:∀(i:Nat) (x:Int),nu[i]?=some x->x=0∨x=1):WF P call c453 [.ptr G 0] h (PostO nu 64 h):=by
 simp only[go_sem,seval]
 refine loop_in (Iop h G nu 64 9 0 (.ptr G 0)) _ _ (fun k tm h' hI=>step453 P m nu01 k tm h' hI) (fun tm2 h2 hR=>?_) (fun _ _ hh=>hh.elim) 64 _ _
  ⟨by simp[go_sem],by simp[go_sem],0,.nils,by omega,by simp[go_sem],by simp[go_sem],.nil,fun b hb=>(by cases hb),StepN.refl _⟩
 obtain⟨v,t3,ls⟩:=hR
 simp only[go_sem,seval,t3]
 exact ls
theorem step208{h0:H}{M n bs G N:Nat}{nu:List Int}(m:TriE h0 M n bs G N 362 (tZ nu))(hn:n<=64)(nu01:∀(i:Nat) (x:Int),nu[i]?=some x->x=0∨x=1)(k:Nat)(tm:T AV)(h:H)(hI:Iop h0 G nu n 4 0 (.ptr G 0) k tm h):
 WC P call c208_l7 (loopQ 0 (fun tm h=>∃j,j<k∧Iop h0 G nu n 4 0 (.ptr G 0) j tm h) (fun tm h=>∃v,tm.get 3=some v∧Lst h0 h v (opn nu n)) (fun _ _=>False)) tm h:=by
 obtain⟨t0,tl,i,v,hik,tc,t3,ls⟩:=hI
 have ov:=ls.o.one
 have m1:=m.keep ls.st.next fun b hb=>ls.st.old b (m.lt hb)
 have gG:=m1.gG
 have gN:=m1.gN
 have ln:=m.ln
 unfold tZ at ln
 rw[List.length_map]at ln
 cases k with
 |zero=>
  have e1:¬(i:Int)<n:=by omega
  obtain rfl:i=n:=by omega
  simp only[go_sem,seval,c208_l7,t0,tc,e1,gG]
  exact⟨v,by simp[go_sem,t3],ls⟩
 |succ k=>
  have e1:(i:Int)<n:=by omega
  have f1:fw .i64 ((i:Int)+1)=(i:Int)+1:=fwI (by omega) (by omega)
  have e3:((i+1:Nat):Int)=(i:Int)+1:=rfl
  have hol:=opn_len nu i
  have hi:i<nu.length:=by rw[ln];omega
  obtain⟨x,hx⟩:∃x,nu[i]?=some x:=⟨_,List.getElem?_eq_getElem hi⟩
  by_cases hx1:nu[i]?=some 1
  ·have e5:opn nu (i+1)=opn nu i++[(i:Int)]:=by show opn nu i++_=_;rw[if_pos hx1]
   obtain⟨-,-,g2⟩:=triC_get (tZ nu) i 1 true true (tZ_get hx1)
   simp only[go_sem,seval,c208_l7,t0,tc,e1,gG,gN,g2,t3,ov]
   refine ls.app (StepN.new h _) (by omega) fun X v' l1 st1 nX old' ov'=>?_
   simp only[go_sem,seval,ov',f1,t0,tc]
   exact⟨k,Nat.lt_succ_self k,by simp[go_sem,t0],by simp[go_sem,t0],i+1,v',by omega,by simp[go_sem,e3],by simp[go_sem],by rw[e5];exact l1⟩
  ·have e5:opn nu (i+1)=opn nu i:=by show opn nu i++_=_;rw[if_neg hx1,List.append_nil]
   have hx0:nu[i]?=some 0:=by rcases nu01 i x hx with rfl|rfl;exact hx;exact absurd hx hx1
   obtain⟨-,-,g2⟩:=triC_get (tZ nu) i 0 false false (tZ_get hx0)
   simp only[go_sem,seval,c208_l7,t0,tc,e1,gG,gN,g2,t3,ov,f1]
   exact⟨k,Nat.lt_succ_self k,by simp[go_sem,t0],by simp[go_sem,t0],i+1,v,by omega,by simp[go_sem,e3],by simp[go_sem,t3],by rw[e5];exact ls⟩
theorem w208{h:H}{M n bs G N:Nat}{nu:List Int}(m:TriE h M n bs G N 362 (tZ nu))(hn:n<=64)(nu01:∀(i:Nat) (x:Int),nu[i]?=some x->x=0∨x=1):WF P call c208 [.ptr G 0] h (PostO nu n h):=by
 simp only[go_sem,seval]
 refine loop_in (Iop h G nu n 4 0 (.ptr G 0)) _ _ (fun k tm h' hI=>step208 P m hn nu01 k tm h' hI) (fun tm2 h2 hR=>?_) (fun _ _ hh=>hh.elim) n _ _
  ⟨by simp[go_sem],by simp[go_sem],0,.nils,by omega,by simp[go_sem],by simp[go_sem],.nil,fun b hb=>(by cases hb),StepN.refl _⟩
 obtain⟨v,t3,ls⟩:=hR
 simp only[go_sem,seval,t3]
 exact ls
theorem step209{h0:H}{M n bs G N:Nat}{nu:List Int}(m:TriE h0 M n bs G N 368 (tZ nu))(hn:n<=64)(nu01:∀(i:Nat) (x:Int),nu[i]?=some x->x=0∨x=1)(k:Nat)(tm:T AV)(h:H)(hI:Iop h0 G nu n 4 0 (.ptr G 0) k tm h):
 WC P call c209_l7 (loopQ 0 (fun tm h=>∃j,j<k∧Iop h0 G nu n 4 0 (.ptr G 0) j tm h) (fun tm h=>∃v,tm.get 3=some v∧Lst h0 h v (opn nu n)) (fun _ _=>False)) tm h:=by
 obtain⟨t0,tl,i,v,hik,tc,t3,ls⟩:=hI
 have ov:=ls.o.one
 have m1:=m.keep ls.st.next fun b hb=>ls.st.old b (m.lt hb)
 have gG:=m1.gG
 have gN:=m1.gN
 have ln:=m.ln
 unfold tZ at ln
 rw[List.length_map]at ln
 cases k with
 |zero=>
  have e1:¬(i:Int)<n:=by omega
  obtain rfl:i=n:=by omega
  simp only[go_sem,seval,c209_l7,t0,tc,e1,gG]
  exact⟨v,by simp[go_sem,t3],ls⟩
 |succ k=>
  have e1:(i:Int)<n:=by omega
  have f1:fw .i64 ((i:Int)+1)=(i:Int)+1:=fwI (by omega) (by omega)
  have e3:((i+1:Nat):Int)=(i:Int)+1:=rfl
  have hol:=opn_len nu i
  have hi:i<nu.length:=by rw[ln];omega
  obtain⟨x,hx⟩:∃x,nu[i]?=some x:=⟨_,List.getElem?_eq_getElem hi⟩
  by_cases hx1:nu[i]?=some 1
  ·have e5:opn nu (i+1)=opn nu i++[(i:Int)]:=by show opn nu i++_=_;rw[if_pos hx1]
   obtain⟨-,-,g2⟩:=triC_get (tZ nu) i 1 true true (tZ_get hx1)
   simp only[go_sem,seval,c209_l7,t0,tc,e1,gG,gN,g2,t3,ov]
   refine ls.app (StepN.new h _) (by omega) fun X v' l1 st1 nX old' ov'=>?_
   simp only[go_sem,seval,ov',f1,t0,tc]
   exact⟨k,Nat.lt_succ_self k,by simp[go_sem,t0],by simp[go_sem,t0],i+1,v',by omega,by simp[go_sem,e3],by simp[go_sem],by rw[e5];exact l1⟩
  ·have e5:opn nu (i+1)=opn nu i:=by show opn nu i++_=_;rw[if_neg hx1,List.append_nil]
   have hx0:nu[i]?=some 0:=by rcases nu01 i x hx with rfl|rfl;exact hx;exact absurd hx hx1
   obtain⟨-,-,g2⟩:=triC_get (tZ nu) i 0 false false (tZ_get hx0)
   simp only[go_sem,seval,c209_l7,t0,tc,e1,gG,gN,g2,t3,ov,f1]
   exact⟨k,Nat.lt_succ_self k,by simp[go_sem,t0],by simp[go_sem,t0],i+1,v,by omega,by simp[go_sem,e3],by simp[go_sem,t3],by rw[e5];exact ls⟩
theorem w209{h:H}{M n bs G N:Nat}{nu:List Int}(m:TriE h M n bs G N 368 (tZ nu))(hn:n<=64)(nu01:∀(i:Nat) (x:Int),nu[i]?=some x->x=0∨x=1):WF P call c209 [.ptr G 0] h (PostO nu n h):=by
 simp only[go_sem,seval]
 refine loop_in (Iop h G nu n 4 0 (.ptr G 0)) _ _ (fun k tm h' hI=>step209 P m hn nu01 k tm h' hI) (fun tm2 h2 hR=>?_) (fun _ _ hh=>hh.elim) n _ _
  ⟨by simp[go_sem],by simp[go_sem],0,.nils,by omega,by simp[go_sem],by simp[go_sem],.nil,fun b hb=>(by cases hb),StepN.refl _⟩
 obtain⟨v,t3,ls⟩:=hR
 simp only[go_sem,seval,t3]
 exact ls
theorem step210{h0:H}{M bs nb G:Nat}{nu:List Int}(m:GatR h0 M bs nb G (gZ nu))(nu01:∀(i:Nat) (x:Int),nu[i]?=some x->x=0∨x=1)(k:Nat)(tm:T AV)(h:H)(hI:Iop h0 G nu 64 4 0 (.ptr G 0) k tm h):
 WC P call c210_l7 (loopQ 0 (fun tm h=>∃j,j<k∧Iop h0 G nu 64 4 0 (.ptr G 0) j tm h) (fun tm h=>∃v,tm.get 3=some v∧Lst h0 h v (opn nu 64)) (fun _ _=>False)) tm h:=by
 obtain⟨t0,tl,i,v,hik,tc,t3,ls⟩:=hI
 have ov:=ls.o.one
 have m1:=m.keep ls.st.next (ls.st.old G m.lG)
 have gG:=m1.gG
 cases k with
 |zero=>
  obtain rfl:i=64:=by omega
  have e1:¬((64:Nat):Int)<64:=by omega
  simp only[go_sem,seval,c210_l7,t0,tc,e1]
  exact⟨v,by simp[go_sem,t3],ls⟩
 |succ k=>
  have f1:fw .i64 ((i:Int)+1)=(i:Int)+1:=fwI (by omega) (by omega)
  have e3:((i+1:Nat):Int)=(i:Int)+1:=rfl
  have hol:=opn_len nu i
  have gq:∀b,decide (nu[i]?=some 1)=b->(gZ nu)[i]?=some (b,b):=fun b hb=>by
   unfold gZ
   rw[List.getElem?_map,List.getElem?_range (by omega),Option.map_some,hb]
  have e0':¬(i:Int)<0:=by omega
  have e1':(i:Int)<64:=by omega
  by_cases hx1:nu[i]?=some 1
  ·have e5:opn nu (i+1)=opn nu i++[(i:Int)]:=by show opn nu i++_=_;rw[if_pos hx1]
   have g1:=(gC_get (M:=M) (bs:=bs) (nb:=nb) (gq true (by simp[hx1]))).2.1
   simp only[go_sem,seval,c210_l7,t0,tc,e1',e0',gG,g1,t3,ov]
   refine ls.app (StepN.new h _) (by omega) fun X v' l1 st1 nX old' ov'=>?_
   simp only[go_sem,seval,ov',f1,t0,tc]
   exact⟨k,Nat.lt_succ_self k,by simp[go_sem,t0],by simp[go_sem,t0],i+1,v',by omega,by simp[go_sem,e3],by simp[go_sem],by rw[e5];exact l1⟩
  ·have e5:opn nu (i+1)=opn nu i:=by show opn nu i++_=_;rw[if_neg hx1,List.append_nil]
   have g1:=(gC_get (M:=M) (bs:=bs) (nb:=nb) (gq false (by simp[hx1]))).2.1
   simp only[go_sem,seval,c210_l7,t0,tc,e1',e0',gG,g1,t3,ov,f1]
   exact⟨k,Nat.lt_succ_self k,by simp[go_sem,t0],by simp[go_sem,t0],i+1,v,by omega,by simp[go_sem,e3],by simp[go_sem,t3],by rw[e5];exact ls⟩
theorem w210{h:H}{M bs nb G:Nat}{nu:List Int}(m:GatR h M bs nb G (gZ nu))(nu01:∀(i:Nat) (x:Int),nu[i]?=some x->x=0∨x=1):WF P call c210 [.ptr G 0] h (PostO nu 64 h):=by
 simp only[go_sem,seval]
 refine loop_in (Iop h G nu 64 4 0 (.ptr G 0)) _ _ (fun k tm h' hI=>step210 P m nu01 k tm h' hI) (fun tm2 h2 hR=>?_) (fun _ _ hh=>hh.elim) 64 _ _
  ⟨by simp[go_sem],by simp[go_sem],0,.nils,by omega,by simp[go_sem],by simp[go_sem],.nil,fun b hb=>(by cases hb),StepN.refl _⟩
 obtain⟨v,t3,ls⟩:=hR
 simp only[go_sem,seval,t3]
 exact ls
end
end Go.Proofs.YtghmnaojmpjglaaGreatDoor.PR
