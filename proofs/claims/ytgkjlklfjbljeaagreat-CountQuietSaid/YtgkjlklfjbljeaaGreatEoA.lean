/-
  An evaluator of Go code is sound. No condition.
-/
import Derived.Calls
import Derived.Orders
import Derived.LoopN
import Derived.Below
import Derived.Laws.Cells
import Derived.Laws.CopyRow
import Derived.Laws.World
import Derived.Laws.Sem
import Derived.Laws.StructEq
import Derived.IntWalk
import Derived.ChangeKeysEq
import Derived.Laws.Tables
set_option linter.all false
namespace Go.Proofs.YtgkjlklfjbljeaaGreat.Eo
theorem Px(i:Nat):Nat.beq (Nat.land i 1) 1=decide (i %2=1):=by
 have h:Nat.land i 1=i %2:=Nat.and_one_is_mod i;rw[h]
 by_cases hi:i %2=1
 ·simp[hi]
 ·have h2:i %2=0:=by omega
  rw[h2];rfl
theorem azS(i:Nat):Nat.shiftRight i 1=i/2:=by
 show i>>>1=i/2
 rw[Nat.shiftRight_succ,Nat.shiftRight_zero]
structure Nd(α:Type) where
 a:α
 b:α
 c:α
 d:α
 e:α
 f:α
 g:α
 h:α
def Tr(α:Type):Nat->Type
 |0=>Option α
 |n+1=>Nd (Tr α n)
structure GB(α:Type)(d:Nat) where
 g:Tr α d->Option α
structure SB(α:Type)(d:Nat) where
 s:Option α->Tr α d->Tr α d
noncomputable def yT(α:Type)(d:Nat):Tr α d:=Nat.rec (motive:=fun d=>Tr α d) (none:Option α) (fun _ ih=>(⟨ih,ih,ih,ih,ih,ih,ih,ih⟩:Nd _)) d
noncomputable def ep(α:Type)(d:Nat):Nat->GB α d:=
 Nat.rec (motive:=fun d=>Nat->GB α d) (fun _=>⟨fun t=>t⟩)
  (fun d ih i=>Bool.rec (Bool.rec (Bool.rec (Bool.rec (Bool.rec (Bool.rec (Bool.rec (⟨fun t=>(ih (Nat.shiftRight i 3)).g (Nd.h t)⟩) (⟨fun t=>(ih (Nat.shiftRight i 3)).g (Nd.g t)⟩) (Nat.beq (Nat.land i 7) 6)) (⟨fun t=>(ih (Nat.shiftRight i 3)).g (Nd.f t)⟩) (Nat.beq (Nat.land i 7) 5)) (⟨fun t=>(ih (Nat.shiftRight i 3)).g (Nd.e t)⟩) (Nat.beq (Nat.land i 7) 4)) (⟨fun t=>(ih (Nat.shiftRight i 3)).g (Nd.d t)⟩) (Nat.beq (Nat.land i 7) 3)) (⟨fun t=>(ih (Nat.shiftRight i 3)).g (Nd.c t)⟩) (Nat.beq (Nat.land i 7) 2)) (⟨fun t=>(ih (Nat.shiftRight i 3)).g (Nd.b t)⟩) (Nat.beq (Nat.land i 7) 1)) (⟨fun t=>(ih (Nat.shiftRight i 3)).g (Nd.a t)⟩) (Nat.beq (Nat.land i 7) 0)) d
noncomputable def gy(α:Type)(d:Nat):Nat->SB α d:=
 Nat.rec (motive:=fun d=>Nat->SB α d) (fun _=>⟨fun x _=>x⟩)
  (fun d ih i=>Bool.rec (Bool.rec (Bool.rec (Bool.rec (Bool.rec (Bool.rec (Bool.rec (⟨fun x t=>(⟨Nd.a t,Nd.b t,Nd.c t,Nd.d t,Nd.e t,Nd.f t,Nd.g t,(ih (Nat.shiftRight i 3)).s x (Nd.h t)⟩:Nd _)⟩) (⟨fun x t=>(⟨Nd.a t,Nd.b t,Nd.c t,Nd.d t,Nd.e t,Nd.f t,(ih (Nat.shiftRight i 3)).s x (Nd.g t),Nd.h t⟩:Nd _)⟩) (Nat.beq (Nat.land i 7) 6)) (⟨fun x t=>(⟨Nd.a t,Nd.b t,Nd.c t,Nd.d t,Nd.e t,(ih (Nat.shiftRight i 3)).s x (Nd.f t),Nd.g t,Nd.h t⟩:Nd _)⟩) (Nat.beq (Nat.land i 7) 5)) (⟨fun x t=>(⟨Nd.a t,Nd.b t,Nd.c t,Nd.d t,(ih (Nat.shiftRight i 3)).s x (Nd.e t),Nd.f t,Nd.g t,Nd.h t⟩:Nd _)⟩) (Nat.beq (Nat.land i 7) 4)) (⟨fun x t=>(⟨Nd.a t,Nd.b t,Nd.c t,(ih (Nat.shiftRight i 3)).s x (Nd.d t),Nd.e t,Nd.f t,Nd.g t,Nd.h t⟩:Nd _)⟩) (Nat.beq (Nat.land i 7) 3)) (⟨fun x t=>(⟨Nd.a t,Nd.b t,(ih (Nat.shiftRight i 3)).s x (Nd.c t),Nd.d t,Nd.e t,Nd.f t,Nd.g t,Nd.h t⟩:Nd _)⟩) (Nat.beq (Nat.land i 7) 2)) (⟨fun x t=>(⟨Nd.a t,(ih (Nat.shiftRight i 3)).s x (Nd.b t),Nd.c t,Nd.d t,Nd.e t,Nd.f t,Nd.g t,Nd.h t⟩:Nd _)⟩) (Nat.beq (Nat.land i 7) 1)) (⟨fun x t=>(⟨(ih (Nat.shiftRight i 3)).s x (Nd.a t),Nd.b t,Nd.c t,Nd.d t,Nd.e t,Nd.f t,Nd.g t,Nd.h t⟩:Nd _)⟩) (Nat.beq (Nat.land i 7) 0)) d
def ub{α:Type}{d:Nat}(a b c d' e f g h:Tr α d):Tr α (d+1):=(⟨a,b,c,d',e,f,g,h⟩:Nd (Tr α d))
def vy{α:Type}{d:Nat}(t:Tr α (d+1)):Tr α d:=Nd.a t
def vz{α:Type}{d:Nat}(t:Tr α (d+1)):Tr α d:=Nd.b t
def vA{α:Type}{d:Nat}(t:Tr α (d+1)):Tr α d:=Nd.c t
def vB{α:Type}{d:Nat}(t:Tr α (d+1)):Tr α d:=Nd.d t
def vD{α:Type}{d:Nat}(t:Tr α (d+1)):Tr α d:=Nd.e t
def vE{α:Type}{d:Nat}(t:Tr α (d+1)):Tr α d:=Nd.f t
def vF{α:Type}{d:Nat}(t:Tr α (d+1)):Tr α d:=Nd.g t
def vG{α:Type}{d:Nat}(t:Tr α (d+1)):Tr α d:=Nd.h t
theorem Rm(i k:Nat):Nat.beq (Nat.land i 7) k=decide (i %8=k):=by
 have h:Nat.land i 7=i %8:=by
  show i&&&7=i %8
  exact Nat.and_two_pow_sub_one_eq_mod i 3
 rw[h]
 by_cases e:i %8=k
 ·simp[e]
 ·simp only[e,decide_false];cases hb:Nat.beq (i %8) k with
  |true=>exact absurd (Nat.eq_of_beq_eq_true hb) e
  |false=>rfl
theorem ac1(i:Nat):Nat.shiftRight i 3=i/8:=by
 show i>>>3=i/8
 rw[Nat.shiftRight_eq_div_pow]
theorem Py(i:Nat):i %8=0\/i %8=1\/i %8=2\/i %8=3\/i %8=4\/i %8=5\/i %8=6\/i %8=7:=by omega
theorem bK(α:Type)(d i:Nat)(t:Tr α (d+1)):(ep α (d+1) i).g t=if i %8=0 then(ep α d (i/8)).g (vy t)else if i %8=1 then(ep α d (i/8)).g (vz t)else if i %8=2 then(ep α d (i/8)).g (vA t)else if i %8=3 then(ep α d (i/8)).g (vB t)else if i %8=4 then(ep α d (i/8)).g (vD t)else if i %8=5 then(ep α d (i/8)).g (vE t)else if i %8=6 then(ep α d (i/8)).g (vF t)else(ep α d (i/8)).g (vG t):=by
 show(Bool.rec (motive:=fun _=>GB α (d+1)) (Bool.rec (motive:=fun _=>GB α (d+1)) (Bool.rec (motive:=fun _=>GB α (d+1)) (Bool.rec (motive:=fun _=>GB α (d+1)) (Bool.rec (motive:=fun _=>GB α (d+1)) (Bool.rec (motive:=fun _=>GB α (d+1)) (Bool.rec (motive:=fun _=>GB α (d+1)) (⟨fun t=>(ep α d (Nat.shiftRight i 3)).g (vG t)⟩) (⟨fun t=>(ep α d (Nat.shiftRight i 3)).g (vF t)⟩) (Nat.beq (Nat.land i 7) 6)) (⟨fun t=>(ep α d (Nat.shiftRight i 3)).g (vE t)⟩) (Nat.beq (Nat.land i 7) 5)) (⟨fun t=>(ep α d (Nat.shiftRight i 3)).g (vD t)⟩) (Nat.beq (Nat.land i 7) 4)) (⟨fun t=>(ep α d (Nat.shiftRight i 3)).g (vB t)⟩) (Nat.beq (Nat.land i 7) 3)) (⟨fun t=>(ep α d (Nat.shiftRight i 3)).g (vA t)⟩) (Nat.beq (Nat.land i 7) 2)) (⟨fun t=>(ep α d (Nat.shiftRight i 3)).g (vz t)⟩) (Nat.beq (Nat.land i 7) 1)) (⟨fun t=>(ep α d (Nat.shiftRight i 3)).g (vy t)⟩) (Nat.beq (Nat.land i 7) 0):GB α (d+1)).g t=_
 simp only[Rm,ac1];rcases Py i with h|h|h|h|h|h|h|h<;>simp[h]
theorem Hu(α:Type)(d i:Nat)(x:Option α)(t:Tr α (d+1)):(gy α (d+1) i).s x t=if i %8=0 then ub ((gy α d (i/8)).s x (vy t)) (vz t) (vA t) (vB t) (vD t) (vE t) (vF t) (vG t)else if i %8=1 then ub (vy t) ((gy α d (i/8)).s x (vz t)) (vA t) (vB t) (vD t) (vE t) (vF t) (vG t)else if i %8=2 then ub (vy t) (vz t) ((gy α d (i/8)).s x (vA t)) (vB t) (vD t) (vE t) (vF t) (vG t)else if i %8=3 then ub (vy t) (vz t) (vA t) ((gy α d (i/8)).s x (vB t)) (vD t) (vE t) (vF t) (vG t)else if i %8=4 then ub (vy t) (vz t) (vA t) (vB t) ((gy α d (i/8)).s x (vD t)) (vE t) (vF t) (vG t)else if i %8=5 then ub (vy t) (vz t) (vA t) (vB t) (vD t) ((gy α d (i/8)).s x (vE t)) (vF t) (vG t)else if i %8=6 then ub (vy t) (vz t) (vA t) (vB t) (vD t) (vE t) ((gy α d (i/8)).s x (vF t)) (vG t)else ub (vy t) (vz t) (vA t) (vB t) (vD t) (vE t) (vF t) ((gy α d (i/8)).s x (vG t)):=by
 show(Bool.rec (motive:=fun _=>SB α (d+1)) (Bool.rec (motive:=fun _=>SB α (d+1)) (Bool.rec (motive:=fun _=>SB α (d+1)) (Bool.rec (motive:=fun _=>SB α (d+1)) (Bool.rec (motive:=fun _=>SB α (d+1)) (Bool.rec (motive:=fun _=>SB α (d+1)) (Bool.rec (motive:=fun _=>SB α (d+1)) (⟨fun x t=>ub (vy t) (vz t) (vA t) (vB t) (vD t) (vE t) (vF t) ((gy α d (Nat.shiftRight i 3)).s x (vG t))⟩) (⟨fun x t=>ub (vy t) (vz t) (vA t) (vB t) (vD t) (vE t) ((gy α d (Nat.shiftRight i 3)).s x (vF t)) (vG t)⟩) (Nat.beq (Nat.land i 7) 6)) (⟨fun x t=>ub (vy t) (vz t) (vA t) (vB t) (vD t) ((gy α d (Nat.shiftRight i 3)).s x (vE t)) (vF t) (vG t)⟩) (Nat.beq (Nat.land i 7) 5)) (⟨fun x t=>ub (vy t) (vz t) (vA t) (vB t) ((gy α d (Nat.shiftRight i 3)).s x (vD t)) (vE t) (vF t) (vG t)⟩) (Nat.beq (Nat.land i 7) 4)) (⟨fun x t=>ub (vy t) (vz t) (vA t) ((gy α d (Nat.shiftRight i 3)).s x (vB t)) (vD t) (vE t) (vF t) (vG t)⟩) (Nat.beq (Nat.land i 7) 3)) (⟨fun x t=>ub (vy t) (vz t) ((gy α d (Nat.shiftRight i 3)).s x (vA t)) (vB t) (vD t) (vE t) (vF t) (vG t)⟩) (Nat.beq (Nat.land i 7) 2)) (⟨fun x t=>ub (vy t) ((gy α d (Nat.shiftRight i 3)).s x (vz t)) (vA t) (vB t) (vD t) (vE t) (vF t) (vG t)⟩) (Nat.beq (Nat.land i 7) 1)) (⟨fun x t=>ub ((gy α d (Nat.shiftRight i 3)).s x (vy t)) (vz t) (vA t) (vB t) (vD t) (vE t) (vF t) (vG t)⟩) (Nat.beq (Nat.land i 7) 0):SB α (d+1)).s x t=_
 simp only[Rm,ac1];rcases Py i with h|h|h|h|h|h|h|h<;>simp[h]
theorem vH(α:Type):∀(d i:Nat),(ep α d i).g (yT α d)=none
 |0,_=>rfl
 |d+1,i=>by
  rw[bK];have ha:vy (yT α (d+1))=yT α d:=rfl;have hb:vz (yT α (d+1))=yT α d:=rfl;have hc:vA (yT α (d+1))=yT α d:=rfl;have hd:vB (yT α (d+1))=yT α d:=rfl;have he:vD (yT α (d+1))=yT α d:=rfl;have hf:vE (yT α (d+1))=yT α d:=rfl;have hg:vF (yT α (d+1))=yT α d:=rfl;have hh:vG (yT α (d+1))=yT α d:=rfl;simp only[ha,hb,hc,hd,he,hf,hg,hh,vH α d,ite_self]
theorem KY{α:Type}{d:Nat}(a b c d' e f g h:Tr α d):vy (ub a b c d' e f g h)=a:=rfl
theorem KZ{α:Type}{d:Nat}(a b c d' e f g h:Tr α d):vz (ub a b c d' e f g h)=b:=rfl
theorem K0{α:Type}{d:Nat}(a b c d' e f g h:Tr α d):vA (ub a b c d' e f g h)=c:=rfl
theorem K3{α:Type}{d:Nat}(a b c d' e f g h:Tr α d):vB (ub a b c d' e f g h)=d':=rfl
theorem K4{α:Type}{d:Nat}(a b c d' e f g h:Tr α d):vD (ub a b c d' e f g h)=e:=rfl
theorem K5{α:Type}{d:Nat}(a b c d' e f g h:Tr α d):vE (ub a b c d' e f g h)=f:=rfl
theorem K6{α:Type}{d:Nat}(a b c d' e f g h:Tr α d):vF (ub a b c d' e f g h)=g:=rfl
theorem K7{α:Type}{d:Nat}(a b c d' e f g h:Tr α d):vG (ub a b c d' e f g h)=h:=rfl
theorem kP(α:Type)(x:Option α):∀(d i j:Nat) (t:Tr α d),i<8^d->j<8^d->(ep α d j).g ((gy α d i).s x t)=if j=i then x else(ep α d j).g t
 |0,i,j,t,hi,hj=>by
  have:i=0:=by simpa using hi
  have:j=0:=by simpa using hj
  subst i;subst j;rw[if_pos rfl];rfl
 |d+1,i,j,t,hi,hj=>by
  rw[Nat.pow_succ]at hi hj;have ih:=fun t=>kP α x d (i/8) (j/8) t (by omega) (by omega)
  rw[Hu,bK,bK];rcases Py i with h|h|h|h|h|h|h|h<;>rcases Py j with k|k|k|k|k|k|k|k<;>
   first
    |(have e:¬j=i:=by omega
      simp[h,k,e,KY,KZ,K0,K3,K4,K5,K6,K7];done)
    |(have e:(j/8=i/8)=(j=i):=by apply propext;omega
      simp[h,k,ih,e,KY,KZ,K0,K3,K4,K5,K6,K7];done)
theorem eD(α:Type):∀(d:Nat) (t t':Tr α d),(∀i,i<8^d->(ep α d i).g t=(ep α d i).g t')->t=t'
 |0,t,t',h=>h 0 (by decide)
 |d+1,t,t',h=>by
  have key:∀r,r<8->∀i,i<8^d->(ep α (d+1) (8*i+r)).g t=(ep α (d+1) (8*i+r)).g t':=fun r hr i hi=>h _ (by rw[Nat.pow_succ];omega)
  have e:∀r i,r<8->(8*i+r)%8=r:=fun r i hr=>by omega
  have f:∀r i,r<8->(8*i+r)/8=i:=fun r i hr=>by omega
  have ka:vy t=vy t':=eD α d _ _ fun i hi=>by have:=key 0 (by decide) i hi;rw[bK,bK,e 0 i (by decide),f 0 i (by decide)]at this;simpa using this
  have kb:vz t=vz t':=eD α d _ _ fun i hi=>by have:=key 1 (by decide) i hi;rw[bK,bK,e 1 i (by decide),f 1 i (by decide)]at this;simpa using this
  have kc:vA t=vA t':=eD α d _ _ fun i hi=>by have:=key 2 (by decide) i hi;rw[bK,bK,e 2 i (by decide),f 2 i (by decide)]at this;simpa using this
  have kd:vB t=vB t':=eD α d _ _ fun i hi=>by have:=key 3 (by decide) i hi;rw[bK,bK,e 3 i (by decide),f 3 i (by decide)]at this;simpa using this
  have ke:vD t=vD t':=eD α d _ _ fun i hi=>by have:=key 4 (by decide) i hi;rw[bK,bK,e 4 i (by decide),f 4 i (by decide)]at this;simpa using this
  have kf:vE t=vE t':=eD α d _ _ fun i hi=>by have:=key 5 (by decide) i hi;rw[bK,bK,e 5 i (by decide),f 5 i (by decide)]at this;simpa using this
  have kg:vF t=vF t':=eD α d _ _ fun i hi=>by have:=key 6 (by decide) i hi;rw[bK,bK,e 6 i (by decide),f 6 i (by decide)]at this;simpa using this
  have kh:vG t=vG t':=eD α d _ _ fun i hi=>by have:=key 7 (by decide) i hi;rw[bK,bK,e 7 i (by decide),f 7 i (by decide)]at this;simpa using this
  have ht:t=ub (vy t) (vz t) (vA t) (vB t) (vD t) (vE t) (vF t) (vG t):=rfl;have JG:t'=ub (vy t') (vz t') (vA t') (vB t') (vD t') (vE t') (vF t') (vG t'):=rfl;rw[ht,JG,ka,kb,kc,kd,ke,kf,kg,kh]
structure Cn(α:Type)(d lo:Nat) where
 t:Tr α d
 h:∀i,i<=lo->(ep α d i).g t=none
structure K8(α:Type)(lo:Nat) where
 f:Nat->Option α
 h:∀i,i<=lo->f i=none
structure T(α:Type) where
 a:Tr α 2
 b:Cn α 4 63
 c:Cn α 6 4095
 d:K8 α 262143
structure anN(α:Type) where
 g:T α->Option α
structure Pz(α:Type) where
 s:α->T α->T α
theorem ble_eq(i n:Nat):Nat.ble i n=decide (i<=n):=by
 by_cases h:i<=n
 ·simp[h,Nat.ble_eq_true_of_le h]
 ·cases hb:Nat.ble i n with
  |true=>exact absurd (Nat.le_of_ble_eq_true hb) h
  |false=>simp[h]
theorem Cn.Gf{α:Type}(i:Nat)(x:α)(t:Cn α 4 63)(h1:Nat.ble i 63=false)(h2:Nat.ble i 4095=true):∀j,j<=63->(ep α 4 j).g ((gy α 4 i).s (some x) t.t)=none:=fun j hj=>by
 have p4:8^4=4096:=by decide
 have e1:¬i<=63:=fun h=>by rw[Nat.ble_eq_true_of_le h]at h1;cases h1
 have e2:=Nat.le_of_ble_eq_true h2;rw[kP α (some x) 4 i j t.t (by omega) (by omega),if_neg (by omega)];exact t.h j hj
theorem Cn.Gh{α:Type}(i:Nat)(x:α)(t:Cn α 6 4095)(h1:Nat.ble i 4095=false)(h2:Nat.ble i 262143=true):∀j,j<=4095->(ep α 6 j).g ((gy α 6 i).s (some x) t.t)=none:=fun j hj=>by
 have p6:8^6=262144:=by decide
 have e1:¬i<=4095:=fun h=>by rw[Nat.ble_eq_true_of_le h]at h1;cases h1
 have e2:=Nat.le_of_ble_eq_true h2;rw[kP α (some x) 6 i j t.t (by omega) (by omega),if_neg (by omega)];exact t.h j hj
theorem K8.Gi{α:Type}(i:Nat)(x:α)(t:K8 α 262143)(h1:Nat.ble i 262143=false):∀j,j<=262143->(if j=i then some x else t.f j)=none:=fun j hj=>by
 have e1:¬i<=262143:=fun h=>by rw[Nat.ble_eq_true_of_le h]at h1;cases h1
 rw[if_neg (by omega)];exact t.h j hj
noncomputable def ac2(α:Type)(i:Nat):anN α:=
 Bool.rec (Bool.rec (Bool.rec ⟨fun t=>t.d.f i⟩ ⟨fun t=>(ep α 6 i).g t.c.t⟩ (Nat.ble i 262143)) ⟨fun t=>(ep α 4 i).g t.b.t⟩ (Nat.ble i 4095)) ⟨fun t=>(ep α 2 i).g t.a⟩ (Nat.ble i 63)
noncomputable def K9(α:Type)(i:Nat):Pz α:=
 Bool.rec (motive:=fun v=>Nat.ble i 63=v->Pz α)
  (fun h1=>Bool.rec (motive:=fun v=>Nat.ble i 4095=v->Pz α)
    (fun h2=>Bool.rec (motive:=fun v=>Nat.ble i 262143=v->Pz α)
      (fun h3=>⟨fun x t=>⟨t.a,t.b,t.c,⟨fun j=>if j=i then some x else t.d.f j,K8.Gi i x t.d h3⟩⟩⟩)
      (fun h3=>⟨fun x t=>⟨t.a,t.b,⟨(gy α 6 i).s (some x) t.c.t,Cn.Gh i x t.c h2 h3⟩,t.d⟩⟩) (Nat.ble i 262143) rfl)
    (fun h2=>⟨fun x t=>⟨t.a,⟨(gy α 4 i).s (some x) t.b.t,Cn.Gf i x t.b h1 h2⟩,t.c,t.d⟩⟩) (Nat.ble i 4095) rfl)
  (fun _=>⟨fun x t=>⟨(gy α 2 i).s (some x) t.a,t.b,t.c,t.d⟩⟩) (Nat.ble i 63) rfl
noncomputable def T.e{α:Type}:T α:=⟨yT α 2,⟨yT α 4,fun i _=>vH α 4 i⟩,⟨yT α 6,fun i _=>vH α 6 i⟩,⟨fun _=>none,fun _ _=>rfl⟩⟩
noncomputable def T.get{α:Type}(t:T α)(i:Nat):Option α:=(ac2 α i).g t
noncomputable def T.set{α:Type}(t:T α)(i:Nat)(x:α):T α:=(K9 α i).s x t
theorem T.get_eq{α:Type}(t:T α)(i:Nat):t.get i=if i<=63 then(ep α 2 i).g t.a else if i<=4095 then(ep α 4 i).g t.b.t else if i<=262143 then(ep α 6 i).g t.c.t else t.d.f i:=by
 unfold T.get ac2;rw[ble_eq,ble_eq,ble_eq]
 by_cases h:i<=63
 ·simp[h]
 ·by_cases h2:i<=4095
  ·simp[h,h2]
  ·by_cases h3:i<=262143<;>simp[h,h2,h3]
theorem T.yU{α:Type}(t:T α){i:Nat}(h:i<=63):t.get i=(ep α 2 i).g t.a:=by rw[T.get_eq,if_pos h]
theorem T.Gj{α:Type}(t:T α){i:Nat}(h:¬i<=63)(h2:i<=4095):t.get i=(ep α 4 i).g t.b.t:=by rw[T.get_eq,if_neg h,if_pos h2]
theorem T.Gk{α:Type}(t:T α){i:Nat}(h:¬i<=4095)(h2:i<=262143):t.get i=(ep α 6 i).g t.c.t:=by rw[T.get_eq,if_neg (by omega),if_neg h,if_pos h2]
theorem T.yV{α:Type}(t:T α){i:Nat}(h:¬i<=262143):t.get i=t.d.f i:=by rw[T.get_eq,if_neg (by omega),if_neg (by omega),if_neg h]
theorem Bp{β:Type}(b:Bool){P:Bool->Prop}(hb:P b)(F:P false->β)(G:P true->β):
 (b=true->∀h,Bool.rec (motive:=fun v=>P v->β) F G b hb=G h)/\(b=false->∀h,Bool.rec (motive:=fun v=>P v->β) F G b hb=F h):=by
 cases b
 ·exact⟨fun h=>(by cases h),fun _ _=>rfl⟩
 ·exact⟨fun _ _=>rfl,fun h=>(by cases h)⟩
theorem T.ac3{α:Type}(t:T α){i:Nat}(x:α)(h:Nat.ble i 63=true):t.set i x=⟨(gy α 2 i).s (some x) t.a,t.b,t.c,t.d⟩:=by
 unfold T.set K9;rw[(Bp (Nat.ble i 63) (P:=fun v=>Nat.ble i 63=v) rfl _ _).1 h h]
theorem T.Gf{α:Type}(t:T α){i:Nat}(x:α)(h1:Nat.ble i 63=false)(h2:Nat.ble i 4095=true):t.set i x=⟨t.a,⟨(gy α 4 i).s (some x) t.b.t,Cn.Gf i x t.b h1 h2⟩,t.c,t.d⟩:=by
 unfold T.set K9;rw[(Bp (Nat.ble i 63) (P:=fun v=>Nat.ble i 63=v) rfl _ _).2 h1 h1,(Bp (Nat.ble i 4095) (P:=fun v=>Nat.ble i 4095=v) rfl _ _).1 h2 h2]
theorem T.Gh{α:Type}(t:T α){i:Nat}(x:α)(h1:Nat.ble i 63=false)(h2:Nat.ble i 4095=false)(h3:Nat.ble i 262143=true):t.set i x=⟨t.a,t.b,⟨(gy α 6 i).s (some x) t.c.t,Cn.Gh i x t.c h2 h3⟩,t.d⟩:=by
 unfold T.set K9;rw[(Bp (Nat.ble i 63) (P:=fun v=>Nat.ble i 63=v) rfl _ _).2 h1 h1,(Bp (Nat.ble i 4095) (P:=fun v=>Nat.ble i 4095=v) rfl _ _).2 h2 h2,(Bp (Nat.ble i 262143) (P:=fun v=>Nat.ble i 262143=v) rfl _ _).1 h3 h3]
theorem T.Gi{α:Type}(t:T α){i:Nat}(x:α)(h1:Nat.ble i 63=false)(h2:Nat.ble i 4095=false)(h3:Nat.ble i 262143=false):t.set i x=⟨t.a,t.b,t.c,⟨fun j=>if j=i then some x else t.d.f j,K8.Gi i x t.d h3⟩⟩:=by
 unfold T.set K9;rw[(Bp (Nat.ble i 63) (P:=fun v=>Nat.ble i 63=v) rfl _ _).2 h1 h1,(Bp (Nat.ble i 4095) (P:=fun v=>Nat.ble i 4095=v) rfl _ _).2 h2 h2,(Bp (Nat.ble i 262143) (P:=fun v=>Nat.ble i 262143=v) rfl _ _).2 h3 h3]
theorem T.di{α:Type}(i:Nat):(T.e:T α).get i=none:=by
 rw[T.get_eq];unfold T.e;simp only[vH,ite_self]
theorem tj{i n:Nat}(h:¬i<=n):Nat.ble i n=false:=by rw[ble_eq];simp;omega
theorem T.ay{α:Type}(x:α)(t:T α)(i j:Nat):(t.set i x).get j=if j=i then some x else t.get j:=by
 have p2:8^2=64:=by decide
 have p4:8^4=4096:=by decide
 have p6:8^6=262144:=by decide
 by_cases h1:i<=63
 ·rw[T.ac3 t x (Nat.ble_eq_true_of_le h1)]
  by_cases h2:j<=63
  ·rw[T.yU _ h2,T.yU _ h2];exact kP α (some x) 2 i j t.a (by omega) (by omega)
  ·rw[if_neg (by omega),T.get_eq,T.get_eq,if_neg h2,if_neg h2]
 by_cases h3:i<=4095
 ·rw[T.Gf t x (tj h1) (Nat.ble_eq_true_of_le h3)]
  by_cases h2:j<=63
  ·rw[if_neg (by omega),T.yU _ h2,T.yU _ h2]
  ·by_cases h4:j<=4095
   ·rw[T.Gj _ h2 h4,T.Gj _ h2 h4];exact kP α (some x) 4 i j t.b.t (by omega) (by omega)
   ·rw[if_neg (by omega),T.get_eq,T.get_eq,if_neg h2,if_neg h2,if_neg h4,if_neg h4]
 by_cases h5:i<=262143
 ·rw[T.Gh t x (tj h1) (tj h3) (Nat.ble_eq_true_of_le h5)]
  by_cases h4:j<=4095
  ·rw[if_neg (by omega),T.get_eq,T.get_eq]
   by_cases h2:j<=63
   ·rw[if_pos h2,if_pos h2]
   ·rw[if_neg h2,if_neg h2,if_pos h4,if_pos h4]
  ·by_cases h6:j<=262143
   ·rw[T.Gk _ h4 h6,T.Gk _ h4 h6];exact kP α (some x) 6 i j t.c.t (by omega) (by omega)
   ·rw[if_neg (by omega),T.yV _ h6,T.yV _ h6]
 rw[T.Gi t x (tj h1) (tj h3) (tj h5)]
 by_cases h6:j<=262143
 ·rw[if_neg (by omega),T.get_eq,T.get_eq]
  by_cases h2:j<=63
  ·rw[if_pos h2,if_pos h2]
  ·by_cases h4:j<=4095
   ·rw[if_neg h2,if_neg h2,if_pos h4,if_pos h4]
   ·rw[if_neg h2,if_neg h2,if_neg h4,if_neg h4,if_pos h6,if_pos h6]
 ·rw[T.yV _ h6,T.yV _ h6]
theorem T.ext{α:Type}{t t':T α}(h:∀i,t.get i=t'.get i):t=t':=by
 have p2:8^2=64:=by decide
 have p4:8^4=4096:=by decide
 have p6:8^6=262144:=by decide
 have ha:t.a=t'.a:=eD α 2 _ _ fun i hi=>by
  rw[p2]at hi;have:=h i;rw[T.yU _ (by omega),T.yU _ (by omega)]at this;exact this
 have hb:t.b.t=t'.b.t:=eD α 4 _ _ fun i hi=>by
  rw[p4]at hi
  by_cases h1:i<=63
  ·rw[t.b.h i h1,t'.b.h i h1]
  ·have:=h i;rw[T.Gj _ h1 (by omega),T.Gj _ h1 (by omega)]at this;exact this
 have hc:t.c.t=t'.c.t:=eD α 6 _ _ fun i hi=>by
  rw[p6]at hi
  by_cases h1:i<=4095
  ·rw[t.c.h i h1,t'.c.h i h1]
  ·have:=h i;rw[T.Gk _ h1 (by omega),T.Gk _ h1 (by omega)]at this;exact this
 have hd:t.d.f=t'.d.f:=funext fun i=>by
  by_cases h1:i<=262143
  ·rw[t.d.h i h1,t'.d.h i h1]
  ·have:=h i;rw[T.yV _ h1,T.yV _ h1]at this;exact this
 obtain⟨a,⟨b,iD⟩,⟨c,JR⟩,⟨d,hd1⟩⟩:=t;obtain⟨a',⟨b',oU⟩,⟨c',hc2⟩,⟨d',hd2⟩⟩:=t';simp only at ha hb hc hd;subst ha hb hc hd;rfl
inductive AV where
 |bool (b:Bool)
 |int (k:IntKind) (n:Int)
 |str (s:ByteArray)
 |ptr (a o:Nat)
 |aJ
 |sl (a o len es:Nat) (cap:Option Nat)
 |ax
 |map (a:Nat)
 |kH
 |fn (f:Fn) (first captured:List AV)
 |Wq (a:Nat)
 |dQ
 |dR (t:TypeId) (v:AV)
 |pC
 |agg (l:List AV)
 |aE (l:List AV)
structure Loc where
 b9:Nat
 off:Nat
 room:Nat
def eC:Nat:=8
structure aR where
 fn:Nat->Option Loc
 own:∀g,g<eC->∃r,fn g=some ⟨g,0,r⟩
instance:CoeFun aR fun _=>Nat->Option Loc:=⟨aR.fn⟩
mutual
def VR(ρ:aR):AV->Value->Prop
 | .bool b,V=>V=.bool b
 | .int k n,V=>V=.int k n
 | .str s,V=>V=.string s
 | .ptr a o,V=>∃l,ρ a=some l/\V=.pointer (some ⟨l.b9,l.off+o,none⟩)
 | .aJ,V=>V=.pointer none
 | .sl a o len es (some c),V=>∃l,ρ a=some l/\len<=c/\V=.slice (some ⟨l.b9,l.off+o,none⟩) len c
 | .sl a o len es none,V=>∃l,ρ a=some l/\0<es/\o+len*es<=l.room/\
    (V=.slice (some ⟨l.b9,l.off+o,none⟩) len ((l.room-o)/es)\/len=0/\∃x,V=.slice (some x) 0 0)
 | .ax,V=>V=.slice none 0 0
 | .map a,V=>∃l,ρ a=some l/\V=.map (some l.b9)
 | .kH,V=>V=.map none
 | .fn f first captured,V=>∃F C,bE ρ first F/\bE ρ captured C/\V=.func f F.toArray C.toArray
 | .Wq a,V=>∃l,ρ a=some l/\V=.func (.yield l.b9) #[] #[]
 | .dQ,V=>V=.nilFunc
 | .dR t v,V=>∃U,VR ρ v U/\V=.iface t U
 | .pC,V=>V=.nilIface
 | .agg l,V=>∃L,bE ρ l L/\V=.agg L.toArray
 | .aE l,V=>∃L,bE ρ l L/\V=.tuple L.toArray
def bE(ρ:aR):List AV->List Value->Prop
 | [],L=>L=[]
 |v::l,L=>∃V M,VR ρ v V/\bE ρ l M/\L=V::M
end
def Le(ρ ρ':aR):Prop:=∀a l,ρ a=some l->ρ' a=some l
theorem Le.refl(ρ:aR):Le ρ ρ:=fun _ _ h=>h
theorem Le.trans{ρ ρ' ρ'':aR}(h:Le ρ ρ')(h':Le ρ' ρ''):Le ρ ρ'':=fun a l e=>h' a l (h a l e)
mutual
theorem VR.mono{ρ ρ':aR}(h:Le ρ ρ'):∀(v:AV) (V:Value),VR ρ v V->VR ρ' v V
 | .bool b,V,hv=>by simpa [VR]using hv
 | .int k n,V,hv=>by simpa [VR]using hv
 | .str s,V,hv=>by simpa [VR]using hv
 | .ptr a o,V,hv=>by simp only[VR]at*;obtain⟨l,h1,h2⟩:=hv;exact⟨l,h _ _ h1,h2⟩
 | .aJ,V,hv=>by simpa [VR]using hv
 | .sl a o len es (some c),V,hv=>by simp only[VR]at*;obtain⟨l,h1,h2⟩:=hv;exact⟨l,h _ _ h1,h2⟩
 | .sl a o len es none,V,hv=>by simp only[VR]at*;obtain⟨l,h1,h2⟩:=hv;exact⟨l,h _ _ h1,h2⟩
 | .ax,V,hv=>by simpa [VR]using hv
 | .map a,V,hv=>by simp only[VR]at*;obtain⟨l,h1,h2⟩:=hv;exact⟨l,h _ _ h1,h2⟩
 | .kH,V,hv=>by simpa [VR]using hv
 | .fn f first captured,V,hv=>by
   simp only[VR]at*;obtain⟨F,C,h1,h2,h3⟩:=hv;exact⟨F,C,bE.mono h _ _ h1,bE.mono h _ _ h2,h3⟩
 | .Wq a,V,hv=>by simp only[VR]at*;obtain⟨l,h1,h2⟩:=hv;exact⟨l,h _ _ h1,h2⟩
 | .dQ,V,hv=>by simpa [VR]using hv
 | .dR t v,V,hv=>by simp only[VR]at*;obtain⟨U,h1,h2⟩:=hv;exact⟨U,VR.mono h _ _ h1,h2⟩
 | .pC,V,hv=>by simpa [VR]using hv
 | .agg l,V,hv=>by simp only[VR]at*;obtain⟨L,h1,h2⟩:=hv;exact⟨L,bE.mono h _ _ h1,h2⟩
 | .aE l,V,hv=>by simp only[VR]at*;obtain⟨L,h1,h2⟩:=hv;exact⟨L,bE.mono h _ _ h1,h2⟩
theorem bE.mono{ρ ρ':aR}(h:Le ρ ρ'):∀(l:List AV) (L:List Value),bE ρ l L->bE ρ' l L
 | [],L,hl=>by simpa [bE]using hl
 |v::l,L,hl=>by
  simp only[bE]at*;obtain⟨V,M,h1,h2,h3⟩:=hl;exact⟨V,M,VR.mono h _ _ h1,bE.mono h _ _ h2,h3⟩
end
theorem bE.length{ρ:aR}:∀{l:List AV} {L:List Value},bE ρ l L->L.length=l.length
 | [],L,h=>by simp only[bE]at h;simp[h]
 |v::l,L,h=>by
  simp only[bE]at h;obtain⟨V,M,_,h2,rfl⟩:=h;simp[bE.length h2]
theorem bE.get{ρ:aR}:∀{l:List AV} {L:List Value},bE ρ l L->∀{i:Nat} {v:AV},l[i]?=some v->∃V,L[i]?=some V/\VR ρ v V
 | [],L,_,i,v,hi=>by simp at hi
 |v::l,L,h,0,u,hi=>by
  simp only[bE]at h;obtain⟨V,M,h1,h2,rfl⟩:=h;simp at hi;subst hi;exact⟨V,by simp,h1⟩
 |v::l,L,h,i+1,u,hi=>by
  simp only[bE]at h;obtain⟨V,M,h1,h2,rfl⟩:=h;simp at hi;obtain⟨U,e,r⟩:=bE.get h2 hi;exact⟨U,by simpa using e,r⟩
theorem bE.append{ρ:aR}:∀{l m:List AV} {L M:List Value},bE ρ l L->bE ρ m M->bE ρ (l++m) (L++M)
 | [],m,L,M,h,h'=>by simp only[bE]at h;subst h;simpa using h'
 |v::l,m,L,M,h,h'=>by
  simp only[bE]at h;obtain⟨V,N,h1,h2,rfl⟩:=h;exact⟨V,N++M,h1,bE.append h2 h',rfl⟩
theorem bE.take{ρ:aR}:∀{l:List AV} {L:List Value} (n:Nat),bE ρ l L->bE ρ (l.take n) (L.take n)
 | [],L,n,h=>by simp only[bE]at h;subst h;simp[bE]
 |v::l,L,0,h=>by simp[bE]
 |v::l,L,n+1,h=>by
  simp only[bE]at h;obtain⟨V,N,h1,h2,rfl⟩:=h;exact⟨V,N.take n,h1,bE.take n h2,rfl⟩
theorem bE.drop{ρ:aR}:∀{l:List AV} {L:List Value} (n:Nat),bE ρ l L->bE ρ (l.drop n) (L.drop n)
 | [],L,n,h=>by simp only[bE]at h;subst h;simp[bE]
 |v::l,L,0,h=>by simpa using h
 |v::l,L,n+1,h=>by
  simp only[bE]at h;obtain⟨V,N,h1,h2,rfl⟩:=h;simpa using bE.drop n h2
theorem bE.set{ρ:aR}:∀{l:List AV} {L:List Value} (i:Nat) {v:AV} {V:Value},bE ρ l L->VR ρ v V->bE ρ (l.set i v) (L.set i V)
 | [],L,i,v,V,h,_=>by simp only[bE]at h;subst h;simp[bE]
 |u::l,L,0,v,V,h,hv=>by
  simp only[bE]at h;obtain⟨U,N,h1,h2,rfl⟩:=h;exact⟨V,N,hv,h2,rfl⟩
 |u::l,L,i+1,v,V,h,hv=>by
  simp only[bE]at h;obtain⟨U,N,h1,h2,rfl⟩:=h;exact⟨U,N.set i V,h1,bE.set i h2 hv,rfl⟩
theorem bE.La{ρ:aR}:∀{l:List AV} {L:List Value},L.length=l.length->(∀(i:Nat) (v:AV) (V:Value),l[i]?=some v->L[i]?=some V->VR ρ v V)->bE ρ l L
 | [],[],_,_=>by simp[bE]
 | [],_::_,h,_=>by simp at h
 |_::_,[],h,_=>by simp at h
 |v::l,V::L,h,hg=>⟨V,L,hg 0 v V rfl rfl,bE.La (by simpa using h) (fun i u U hu hU=>hg (i+1) u U (by simpa using hu) (by simpa using hU)),rfl⟩
inductive AO where
 |row (cells:T AV) (len:Nat) (elem:TypeId)
 |map (es:List (AV×AV×Nat)) (clock:Nat)
 |iter (m:Option Nat) (since:Nat) (seen:List Nat) (last:Nat)
 |loop (st:LoopState) (fZ:Option Code) (tm:T AV) (N:Nat) (ps:List Nat) (assign body:Code)
 |Aw (cells:T AV)
 |dead
structure H where
 next:Nat
 t:T AO
def AO.live:AO->Bool
 | .dead=>false
 |_=>true
def AO.mut:AO->Bool
 | .dead=>false
 | .Aw _=>false
 |_=>true
theorem AO.gz{o:AO}(h:o.mut=true):o.live=true:=by cases o<;>first|rfl|simp[AO.mut]at h
def ij(ρ:aR):List (AV×AV×Nat)->List MapEntry->Prop
 | [],L=>L=[]
 |e::l,L=>∃E M,VR ρ e.1 E.key/\VR ρ e.2.1 E.val/\E.born=e.2.2/\ij ρ l M/\L=E::M
theorem ij.mono{ρ ρ':aR}(h:Le ρ ρ'):∀(l:List (AV×AV×Nat)) (L:List MapEntry),ij ρ l L->ij ρ' l L
 | [],L,hl=>hl
 |e::l,L,hl=>by
  obtain⟨E,M,h1,h2,h3,h4,h5⟩:=hl;exact⟨E,M,VR.mono h _ _ h1,VR.mono h _ _ h2,h3,ij.mono h _ _ h4,h5⟩
def one:Value->Bool
 | .agg _| .tuple _=>false
 |_=>true
def uJ(ρ:aR)(w:World)(l:Loc):AO->Prop
 | .row cells len e=>len<=l.room/\∃c,w.heap[l.b9]?=some (.cells c e (0,0))/\l.off+l.room=c.size/\
    ∀i v,cells.get i=some v->i<len/\∃V,VR ρ v V/\one V=true/\c[l.off+i]?=some V
 | .map es clock=>∃ES,ij ρ es ES/\w.heap[l.b9]?=some (.map ES.toArray clock)
 | .iter m since seen last=>l.off=0/\∃M,w.heap[l.b9]?=some (.mapIter M since seen.toArray last)/\match m with
   |none=>M=none
   |some a=>∃k,ρ a=some k/\M=some k.b9
 | .loop st fZ tm N ps assign body=>∃tmps fn D,(∀i v,tm.get i=some v->i<tmps.size/\VR ρ v (tmps.getD i (Value.tuple #[])))/\tmps.size=N/\
    w.heap[l.b9]?=some (.loop {state:=st,pending:=fZ,fn,tmps,params:=ps.toArray,assign,body,defers:=D})
 | .Aw cells=>∃c e f,w.heap[l.b9]?=some (.cells c e f)/\∀i v,cells.get i=some v->∃V,VR ρ v V/\one V=true/\c[l.off+i]?=some V
 | .dead=>True
theorem uJ.mono{ρ ρ':aR}(h:Le ρ ρ'){w:World}{l:Loc}:∀{o:AO},uJ ρ w l o->uJ ρ' w l o
 | .row cells len e,hi=>by
   obtain⟨h0,c,h1,h2,h3⟩:=hi;exact⟨h0,c,h1,h2,fun i v hg=>by obtain⟨a,V,b,d,e⟩:=h3 i v hg;exact⟨a,V,VR.mono h _ _ b,d,e⟩⟩
 | .map es clock,hi=>by
   obtain⟨ES,h1,h2⟩:=hi;exact⟨ES,ij.mono h _ _ h1,h2⟩
 | .iter m since seen last,hi=>by
   obtain⟨h0,M,h1,h2⟩:=hi;refine⟨h0,M,h1,?_⟩;cases m with
   |none=>exact h2
   |some a=>obtain⟨k,h3,h4⟩:=h2;exact⟨k,h _ _ h3,h4⟩
 | .loop st fZ tm N ps assign body,hi=>by
   obtain⟨tmps,fn,D,h1,h2,h3⟩:=hi;exact⟨tmps,fn,D,fun i v hg=>⟨(h1 i v hg).1,VR.mono h _ _ (h1 i v hg).2⟩,h2,h3⟩
 | .Aw cells,hi=>by
   obtain⟨c,e,f,h1,h2⟩:=hi;exact⟨c,e,f,h1,fun i v hg=>by obtain⟨V,b,d,e⟩:=h2 i v hg;exact⟨V,VR.mono h _ _ b,d,e⟩⟩
 | .dead,_=>trivial
theorem uJ.congr{ρ:aR}{w w':World}{l:Loc}(h:w'.heap[l.b9]?=w.heap[l.b9]?):∀{o:AO},uJ ρ w l o->uJ ρ w' l o
 | .row cells len e,hi=>by
   obtain⟨h0,c,h1,h2,h3⟩:=hi;exact⟨h0,c,h.trans h1,h2,h3⟩
 | .map es clock,hi=>by
   obtain⟨ES,h1,h2⟩:=hi;exact⟨ES,h1,h.trans h2⟩
 | .iter m since seen last,hi=>by
   obtain⟨h0,M,h1,h2⟩:=hi;exact⟨h0,M,h.trans h1,h2⟩
 | .loop st fZ tm N ps assign body,hi=>by
   obtain⟨tmps,fn,D,h1,h2,h3⟩:=hi;exact⟨tmps,fn,D,h1,h2,h.trans h3⟩
 | .Aw cells,hi=>by
   obtain⟨c,e,f,h1,h2⟩:=hi;exact⟨c,e,f,h.trans h1,h2⟩
 | .dead,_=>trivial
structure HR(ρ:aR)(g:Nat->Option AO)(w:World):Prop where
 obj:∀a o l,g a=some o->o.live=true->ρ a=some l->l.b9<w.heap.size/\uJ ρ w l o
 inj:∀a b o p l m,g a=some o->o.live=true->g b=some p->p.live=true->ρ a=some l->ρ b=some m->l.b9=m.b9->a=b
def cC(ρ:aR)(n:Nat):Prop:=∀a,n<=a->ρ a=none
structure Env(w w':World):Prop where
 os:w'.os=w.os
 tape:w'.tape=w.tape
 output:w'.output=w.output
theorem Env.refl(w:World):Env w w:=⟨rfl,rfl,rfl⟩
theorem Env.trans{w w' uK:World}(h:Env w w')(h':Env w' uK):Env w uK:=⟨h'.os.trans h.os,h'.tape.trans h.tape,h'.output.trans h.output⟩
structure Nx(ρ:aR)(g:Nat->Option AO)(w:World)(ρ':aR)(g':Nat->Option AO)(w':World):Prop where
 rel:HR ρ' g' w'
 le:Le ρ ρ'
 env:Env w w'
 size:w.heap.size<=w'.heap.size
 frame:∀r,r<w.heap.size->(∀a o l,g a=some o->o.mut=true->ρ a=some l->l.b9≠r)->w'.heap[r]?=w.heap[r]?
 back:∀a o l,g' a=some o->o.mut=true->ρ' a=some l->l.b9<w.heap.size->∃b p m,g b=some p/\p.mut=true/\ρ b=some m/\m.b9=l.b9
theorem Nx.refl{ρ:aR}{g:Nat->Option AO}{w:World}(h:HR ρ g w):Nx ρ g w ρ g w:=
 ⟨h,Le.refl _,Env.refl _,Nat.le_refl _,fun _ _ _=>rfl,fun a o l h1 h2 h3 _=>⟨a,o,l,h1,h2,h3,rfl⟩⟩
theorem Nx.trans{ρ ρ' ρ'':aR}{g g' g'':Nat->Option AO}{w w' uK:World}(h:Nx ρ g w ρ' g' w')(h':Nx ρ' g' w' ρ'' g'' uK):Nx ρ g w ρ'' g'' uK where
 rel:=h'.rel
 le:=h.le.trans h'.le
 env:=h.env.trans h'.env
 size:=Nat.le_trans h.size h'.size
 frame:=fun r hr hn=>by
  rw[h'.frame r (Nat.lt_of_lt_of_le hr h.size) ?_,h.frame r hr hn];intro a o l h1 h2 h3 h4;obtain⟨b,p,m,k1,k2,k3,k4⟩:=h.back a o l h1 h2 h3 (h4▸hr);exact hn b p m k1 k2 k3 (k4.trans h4)
 back:=fun a o l h1 h2 h3 h4=>by
  obtain⟨b,p,m,k1,k2,k3,k4⟩:=h'.back a o l h1 h2 h3 (Nat.lt_of_lt_of_le h4 h.size);obtain⟨c,q,n,j1,j2,j3,j4⟩:=h.back b p m k1 k2 k3 (k4▸h4);exact⟨c,q,n,j1,j2,j3,j4.trans k4⟩
theorem HR.drew{ρ:aR}{g:Nat->Option AO}{w w':World}(h:HR ρ g w)(hh:w'.heap=w.heap):HR ρ g w' where
 obj:=fun a o l h1 h2 h3=>by
  obtain⟨k2,k3⟩:=h.obj a o l h1 h2 h3;exact⟨by rw[hh];exact k2,uJ.congr (by rw[hh]) k3⟩
 inj:=h.inj
theorem Nx.drew{ρ:aR}{g:Nat->Option AO}{w w':World}(h:HR ρ g w)(hh:w'.heap=w.heap)(he:Env w w'):Nx ρ g w ρ g w':=
 ⟨h.drew hh,Le.refl _,he,by rw[hh];exact Nat.le_refl _,fun _ _ _=>by rw[hh],fun a o l h1 h2 h3 _=>⟨a,o,l,h1,h2,h3,rfl⟩⟩
def Kp(ρ:aR)(h:H)(ρ':aR)(h':H):Prop:=h.next<=h'.next/\∀a,a<h.next->ρ a=none->ρ' a=none/\h'.t.get a=h.t.get a
theorem Kp.refl(ρ:aR)(h:H):Kp ρ h ρ h:=⟨Nat.le_refl _,fun _ _ e=>⟨e,rfl⟩⟩
theorem Kp.trans{ρ ρ' ρ'':aR}{h h' XQ:H}(k:Kp ρ h ρ' h')(k':Kp ρ' h' ρ'' XQ):Kp ρ h ρ'' XQ:=
 ⟨Nat.le_trans k.1 k'.1,fun a ha e=>by
   obtain⟨e1,e2⟩:=k.2 a ha e;obtain⟨e3,e4⟩:=k'.2 a (Nat.lt_of_lt_of_le ha k.1) e1;exact⟨e3,e4.trans e2⟩⟩
structure Way(ρ:aR)(h:H)(w:World)(ρ':aR)(h':H)(w':World):Prop where
 nx:Nx ρ h.t.get w ρ' h'.t.get w'
 fresh:cC ρ' h'.next
 kp:Kp ρ h ρ' h'
theorem Way.refl{ρ:aR}{h:H}{w:World}(hr:HR ρ h.t.get w)(hf:cC ρ h.next):Way ρ h w ρ h w:=⟨Nx.refl hr,hf,Kp.refl _ _⟩
theorem Way.trans{ρ ρ' ρ'':aR}{h h' XQ:H}{w w' uK:World}(k:Way ρ h w ρ' h' w')(k':Way ρ' h' w' ρ'' XQ uK):Way ρ h w ρ'' XQ uK:=
 ⟨k.nx.trans k'.nx,k'.fresh,k.kp.trans k'.kp⟩
theorem Way.drew{ρ:aR}{h:H}{w w':World}(hr:HR ρ h.t.get w)(hf:cC ρ h.next)(hh:w'.heap=w.heap)(he:Env w w'):Way ρ h w ρ h w':=⟨Nx.drew hr hh he,hf,Kp.refl _ _⟩
end Go.Proofs.YtgkjlklfjbljeaaGreat.Eo
namespace Go.Proofs.YtgkjlklfjbljeaaGreat.Eo
noncomputable section
def aa(k:Nat)(l:List AV)(t:T AV):T AV:=List.rec (motive:=fun _=>Nat->T AV->T AV) (fun _ t=>t) (fun v _ ih k t=>ih (Nat.succ k) (t.set k v)) l k t
theorem fJ(k:Nat)(t:T AV):aa k [] t=t:=rfl
theorem fa(k:Nat)(v:AV)(l:List AV)(t:T AV):aa k (v::l) t=aa (k+1) l (t.set k v):=rfl
theorem dm:∀(l:List AV) (k:Nat) (t:T AV) (i:Nat),(aa k l t).get i=if k<=i/\i<k+l.length then l[i-k]? else t.get i
 | [],k,t,i=>by simp[fJ];omega
 |v::l,k,t,i=>by
  rw[fa,dm l (k+1),T.ay]
  by_cases h1:k+1<=i/\i<k+1+l.length
  ·rw[if_pos h1,if_pos (by simp;omega),show i-k=(i-(k+1))+1 by omega];simp
  ·rw[if_neg h1]
   by_cases h2:i=k
   ·subst h2;simp
   ·rw[if_neg h2,if_neg (by simp;omega)]
def bh(t:T AV)(o n:Nat):Option (List AV):=
 Nat.rec (motive:=fun _=>Nat->Option (List AV)) (fun _=>some []) (fun _ ih o=>Option.rec none (fun v=>Option.rec none (fun l=>some (v::l)) (ih (Nat.succ o))) (t.get o)) n o
theorem dH(t:T AV)(o:Nat):bh t o 0=some []:=rfl
theorem eT(t:T AV)(o n:Nat):bh t o (n+1)=match t.get o with
 |some v=>match bh t (o+1) n with
  |some l=>some (v::l)
  |none=>none
 |none=>none:=by
 show(Option.rec none (fun v=>Option.rec none (fun l=>some (v::l)) (bh t (o+1) n)) (t.get o):Option (List AV))=_
 cases t.get o with
 |none=>rfl
 |some v=>cases bh t (o+1) n<;>rfl
theorem Bq(t:T AV):∀(n o:Nat) (l:List AV),bh t o n=some l->l.length=n/\∀i,i<n->t.get (o+i)=l[i]?
 |0,o,l,h=>by simp[dH]at h;subst h;simp
 |n+1,o,l,h=>by
  rw[eT]at h;split at h
  ·rename_i v hv;split at h
   ·rename_i m hm;simp at h;subst h;obtain⟨h1,h2⟩:=Bq t n (o+1) m hm;refine⟨by simp[h1],fun i hi=>?_⟩;cases i with
    |zero=>simpa using hv
    |succ i=>have:=h2 i (by omega);simpa [show o+(i+1)=o+1+i by omega]using this
   ·simp at h
  ·simp at h
theorem fo(b o i:Nat):(⟨b,o,none⟩:Addr).add i=⟨b,o+i,none⟩:=by
 unfold Addr.add;split
 ·rename_i h;subst h;rfl
 ·rfl
theorem HR.row{ρ:aR}{g:Nat->Option AO}{w:World}(h:HR ρ g w){a:Nat}{l:Loc}{cells:T AV}{len:Nat}{e:TypeId}(hg:g a=some (.row cells len e))(hl:ρ a=some l):
 l.b9<w.heap.size/\uJ ρ w l (.row cells len e):=by
 exact h.obj a _ l hg rfl hl
theorem cell_of{ρ:aR}{g:Nat->Option AO}{w:World}(h:HR ρ g w){a:Nat}{l:Loc}{cells:T AV}{len:Nat}{e:TypeId}(hg:g a=some (.row cells len e))(hl:ρ a=some l)
 {i:Nat} {v:AV} (hv:cells.get i=some v):∃V,VR ρ v V/\one V=true/\w.cell? ⟨l.b9,l.off+i,none⟩=some V:=by
 obtain⟨_,_,c,hc,_,hi⟩:=h.row hg hl;obtain⟨_,V,h1,h2,h3⟩:=hi i v hv;exact⟨V,h1,h2,by simp[World.cell?,hc,h3]⟩
theorem rU{ρ:aR}{g:Nat->Option AO}{w:World}(h:HR ρ g w){a:Nat}{l:Loc}{cells:T AV}{len:Nat}{e:TypeId}(hg:g a=some (.row cells len e))(hl:ρ a=some l):
 ∀{n o:Nat} {vs:List AV},bh cells o n=some vs->∃Vs,bE ρ vs Vs/\Vs.length=n/\(∀V∈Vs,one V=true)/\∀i V,Vs[i]?=some V->w.cell? ⟨l.b9,l.off+o+i,none⟩=some V
 |0,o,vs,hv=>by simp[dH]at hv;subst hv;exact⟨[],rfl,rfl,by simp,by simp⟩
 |n+1,o,vs,hv=>by
  rw[eT]at hv;split at hv
  ·rename_i v h1;split at hv
   ·rename_i m h2;simp at hv;subst hv;obtain⟨V,k1,k2,k3⟩:=cell_of h hg hl h1;obtain⟨Vs,j1,j2,j3,j4⟩:=rU h hg hl h2;refine⟨V::Vs,⟨V,Vs,k1,j1,rfl⟩,by simp[j2],by simpa using⟨k2,j3⟩,fun i U hU=>?_⟩;cases i with
    |zero=>simp at hU;subst hU;exact k3
    |succ i=>simp at hU;have:=j4 i U hU;rwa [show l.off+o+(i+1)=l.off+(o+1)+i by omega]
   ·simp at hv
  ·simp at hv
theorem Df{ρ:aR}{g:Nat->Option AO}{w:World}(h:HR ρ g w){a:Nat}{l:Loc}{cells:T AV}(hg:g a=some (.Aw cells))(hl:ρ a=some l)
 {i:Nat} {v:AV} (hv:cells.get i=some v):∃V,VR ρ v V/\one V=true/\w.cell? ⟨l.b9,l.off+i,none⟩=some V:=by
 obtain⟨_,c,e,f,h1,h2⟩:=h.obj a _ _ hg rfl hl;obtain⟨V,k1,k2,k3⟩:=h2 i v hv;exact⟨V,k1,k2,by simp[World.cell?,h1,k3]⟩
theorem cells_of_tab{ρ:aR}{g:Nat->Option AO}{w:World}(h:HR ρ g w){a:Nat}{l:Loc}{cells:T AV}(hg:g a=some (.Aw cells))(hl:ρ a=some l):
 ∀{n o:Nat} {vs:List AV},bh cells o n=some vs->∃Vs,bE ρ vs Vs/\Vs.length=n/\(∀V∈Vs,one V=true)/\∀i V,Vs[i]?=some V->w.cell? ⟨l.b9,l.off+o+i,none⟩=some V
 |0,o,vs,hv=>by simp[dH]at hv;subst hv;exact⟨[],rfl,rfl,by simp,by simp⟩
 |n+1,o,vs,hv=>by
  rw[eT]at hv;split at hv
  ·rename_i v h1;split at hv
   ·rename_i m h2;simp at hv;subst hv;obtain⟨V,k1,k2,k3⟩:=Df h hg hl h1;obtain⟨Vs,j1,j2,j3,j4⟩:=cells_of_tab h hg hl h2;refine⟨V::Vs,⟨V,Vs,k1,j1,rfl⟩,by simp[j2],by simpa using⟨k2,j3⟩,fun i U hU=>?_⟩;cases i with
    |zero=>simp at hU;subst hU;exact k3
    |succ i=>simp at hU;have:=j4 i U hU;rwa [show l.off+o+(i+1)=l.off+(o+1)+i by omega]
   ·simp at hv
  ·simp at hv
theorem yW{P:Program}{w:World}{a:Addr}{V:Value}(h:w.cell? a=some V)(m:Mode):(load a m).run P w=.ok V w:=by
 rw[run_load,h]
theorem kQ{P:Program}{w:World}{a:Addr}{Vs:List Value}{n:Nat}(hn:Vs.length=n)(hs:a.spot=none)(h:∀(i:Nat) (V:Value),Vs[i]?=some V->w.cell? ⟨a.block,a.off+i,none⟩=some V):
 (loadCells a n).run P w=.ok Vs.toArray w:=by
 subst hn;refine run_loadCells_list w a Vs fun j v hj=>?_
 obtain⟨b,o,s⟩:=a;simp at hs;subst hs;rw[fo];exact h j v hj
theorem World.setRow_size(w:World)(g:Nat)(c:Array Value):(w.setRow g c).heap.size=w.heap.size:=by
 unfold World.setRow;simp
theorem World.wR(w:World)(g:Nat)(c:Array Value):Env w (w.setRow g c):=⟨rfl,rfl,rfl⟩
theorem World.yX(w:World)(g:Nat)(c:Array Value){cur:Array Value}{t:TypeId}{f:Nat×Nat}(h:w.heap[g]?=some (.cells cur t f)):(w.setRow g c).heap[g]?=some (.cells c t f):=by
 exact setRow_heap w g cur _ t _ h
theorem World.setRow_other(w:World)(g:Nat)(c:Array Value){r:Nat}(h:r≠g):(w.setRow g c).heap[r]?=w.heap[r]?:=by
 unfold World.setRow;rw[Array.getElem?_modify];simp[Ne.symm h]
theorem rV{V:Value}:one V=true->V.oneCell'=true:=by
 cases V<;>simp[one,Value.oneCell']
theorem lH{ρ:aR}{g g':Nat->Option AO}{w w':World}(h:HR ρ g w){a:Nat}{l:Loc}{o o':AO}(hg:g a=some o)(Wr:o.mut=true)(hl:ρ a=some l)
 (Ip:∀b,g' b=if b=a then some o' else g b) (Ws:Env w w') (rn:w'.heap.size=w.heap.size) (hot:∀r,r≠l.b9->w'.heap[r]?=w.heap[r]?) (ho':o'.live=true) (fH:uJ ρ w' l o'):Nx ρ g w ρ g' w':=by
 have ho:=AO.gz Wr;have wD:l.b9<w.heap.size:=(h.obj a o l hg ho hl).1;refine⟨⟨?_,?_⟩,Le.refl _,Ws,by omega,?_,?_⟩
 ·intro b p m hb hp h1;rw[Ip]at hb
  by_cases e:b=a
  ·subst e;simp at hb;subst hb;rw[hl]at h1;simp at h1;subst h1;exact⟨by omega,fH⟩
  ·rw[if_neg e]at hb;obtain⟨h2,h3⟩:=h.obj b p m hb hp h1;refine⟨by omega,uJ.congr (hot _ fun hh=>e (h.inj b a p o m l hb hp hg ho h1 hl hh)) h3⟩
 ·intro b c p q m n hb hp hc hq hm hn hmn;rw[Ip]at hb hc;have C0:∃p,g b=some p/\p.live=true:=by
   by_cases e:b=a
   ·subst e;exact⟨o,hg,ho⟩
   ·rw[if_neg e]at hb;exact⟨p,hb,hp⟩
  have xY:∃p,g c=some p/\p.live=true:=by
   by_cases e:c=a
   ·subst e;exact⟨o,hg,ho⟩
   ·rw[if_neg e]at hc;exact⟨q,hc,hq⟩
  obtain⟨p',iD,oU⟩:=C0;obtain⟨q',JR,hc2⟩:=xY;exact h.inj b c p' q' m n iD oU JR hc2 hm hn hmn
 ·intro r hr hn;exact hot r fun e=>hn a o l hg Wr hl e.symm
 ·intro b p m hb hp FM _;rw[Ip]at hb
  by_cases e:b=a
  ·subst e;rw[hl]at FM;simp at FM;subst FM;exact⟨b,o,l,hg,Wr,hl,rfl⟩
  ·rw[if_neg e]at hb;exact⟨b,p,m,hb,hp,FM,rfl⟩
theorem PA{ρ:aR}{a:Nat}(h:ρ a=none):eC<=a:=by
 rcases Nat.lt_or_ge a eC with hh|hh
 ·obtain⟨r,e⟩:=ρ.own a hh;rw[h]at e;simp at e
 ·exact hh
def lq(ρ:aR)(a:Nat)(l:Loc):aR:=⟨fun b=>if b=a/\eC<=a then some l else ρ b,fun g hg=>by
 obtain⟨r,e⟩:=ρ.own g hg;exact⟨r,by rw[if_neg (by omega)];exact e⟩⟩
theorem Br{ρ:aR}{a b:Nat}{l:Loc}:lq ρ a l b=if b=a/\eC<=a then some l else ρ b:=rfl
theorem lI{ρ:aR}{a:Nat}{l:Loc}(h:ρ a=none):Le ρ (lq ρ a l):=fun b m hb=>by
 rw[Br]
 by_cases e:b=a
 ·subst e;rw[h]at hb;simp at hb
 ·rw[if_neg (by simp[e])];exact hb
theorem Bs{ρ:aR}{a:Nat}{l:Loc}{n:Nat}(h:cC ρ n)(ha:n<=a):Le ρ (lq ρ a l):=lI (h a ha)
theorem cj{ρ:aR}{a b:Nat}{l:Loc}(h:b≠a):lq ρ a l b=ρ b:=by simp[Br,h]
theorem cK{ρ:aR}{a:Nat}{l:Loc}(h:ρ a=none):lq ρ a l a=some l:=by simp[Br,PA h]
theorem yY{ρ:aR}{a:Nat}{l:Loc}(h:cC ρ a):cC (lq ρ a l) (a+1):=fun b hb=>by
 rw[Br,if_neg (by omega)];exact h b (by omega)
theorem tq{ρ:aR}{g g':Nat->Option AO}{w:World}(h:HR ρ g w){a:Nat}{l:Loc}{o:AO}{obj:Obj}(hf:ρ a=none)(hl:l.b9=w.heap.size)
 (Ip:∀b,g' b=if b=a then some o else g b) (fH:uJ (lq ρ a l) (w.alloc obj) l o):Nx ρ g w (lq ρ a l) g' (w.alloc obj):=by
 have hle:Le ρ (lq ρ a l):=lI hf;have hold:∀r,r<w.heap.size->(w.alloc obj).heap[r]?=w.heap[r]?:=fun r hr=>by
  simp only[World.alloc,Array.getElem?_push];rw[if_neg (by omega)]
 refine⟨⟨?_,?_⟩,hle,⟨rfl,rfl,rfl⟩,by simp,fun r hr _=>hold r hr,?_⟩
 ·intro b p m hb hp hm;rw[Ip]at hb
  by_cases e:b=a
  ·subst e;simp at hb;subst hb;rw[cK hf]at hm;simp at hm;subst hm;exact⟨by simp;omega,fH⟩
  ·rw[if_neg e]at hb;rw[cj e]at hm;obtain⟨h2,h3⟩:=h.obj b p m hb hp hm;exact⟨by simp;omega,uJ.mono hle (uJ.congr (hold _ h2) h3)⟩
 ·intro b c p q m n hb hp hc hq hm hn hmn;rw[Ip]at hb hc
  by_cases e:b=a
  ·by_cases e':c=a
   ·rw[e,e']
   ·rw[if_neg e']at hc;rw[cj e']at hn;have:=(h.obj c q n hc hq hn).1;rw[e,cK hf]at hm;simp at hm;subst hm;omega
  ·rw[if_neg e]at hb;rw[cj e]at hm;have k:=(h.obj b p m hb hp hm).1
   by_cases e':c=a
   ·rw[e',cK hf]at hn;simp at hn;subst hn;omega
   ·rw[if_neg e']at hc;rw[cj e']at hn;exact h.inj b c p q m n hb hp hc hq hm hn hmn
 ·intro b p m hb hp hm df;rw[Ip]at hb
  by_cases e:b=a
  ·subst e;rw[cK hf]at hm;simp at hm;subst hm;omega
  ·rw[if_neg e]at hb;rw[cj e]at hm;exact⟨b,p,m,hb,hp,hm,rfl⟩
theorem rW{ρ:aR}{h:H}{w:World}(hr:HR ρ h.t.get w){a:Nat}{l:Loc}{cells:T AV}{len:Nat}{e:TypeId}(hg:h.t.get a=some (.row cells len e))(hl:ρ a=some l)
 {vs:List AV} {Vs:List Value} (hv:bE ρ vs Vs) (h1:∀V∈Vs,one V=true) {o:Nat} (ho:o+vs.length<=len) (P:Program):
 ∃w',(storeCells ⟨l.b9,l.off+o,none⟩ Vs).run P w=.ok () w'/\Nx ρ h.t.get w ρ (h.t.set a (.row (aa o vs cells) len e)).get w':=by
 obtain⟨hb,hlen,c,hc,CU,hi⟩:=hr.row hg hl;have hL:Vs.length=vs.length:=hv.length;have gf:=run_storeCells_at (P:=P) l.b9 (l.off+o) e Vs 0 c w hc (by omega) (fun V hV=>rV (h1 V hV));rw[Nat.add_zero]at gf;refine⟨_,gf,lH hr hg rfl hl (fun b=>T.ay _ _ _ _) (World.wR _ _ _) (World.setRow_size _ _ _) (fun r dB=>World.setRow_other _ _ _ dB) rfl ?_⟩;refine⟨hlen,_,World.yX _ _ _ hc,?_,fun i v hgi=>?_⟩
 ·have iT:c.toList.length=c.size:=by simp
  simp only[List.size_toArray,List.length_append,List.length_take,List.length_drop,iT];omega
 ·rw[dm]at hgi;have iT:c.toList.length=c.size:=by simp
  by_cases hh:o<=i/\i<o+vs.length
  ·rw[if_pos hh]at hgi;have xZ:vs[i-o]?=some v:=hgi;obtain⟨V,k1,k2⟩:=hv.get xZ;refine⟨by omega,V,k2,h1 V (List.mem_of_getElem? k1),?_⟩;simp only[List.getElem?_toArray];rw[List.append_assoc,List.getElem?_append_right (by simp;omega),List.getElem?_append_left (by simp[iT];omega)];rw[←k1];congr 1;simp[iT];omega
  ·rw[if_neg hh]at hgi;obtain⟨j1,V,j2,j3,j4⟩:=hi i v hgi;refine⟨j1,V,j2,j3,?_⟩;rw[←j4];simp only[List.getElem?_toArray];have hc2:∀k:Nat,c[k]?=c.toList[k]?:=fun k=>by simp
   by_cases Eh:i<o
   ·rw[List.append_assoc,List.getElem?_append_left (by simp[iT];omega),List.getElem?_take,if_pos (by omega),hc2]
   ·rw[List.getElem?_append_right (by simp[iT];omega),List.getElem?_drop,hc2];congr 1;simp[iT];omega
theorem eY{ρ:aR}{h:H}{w w':World}(hf:cC ρ h.next){a:Nat}{l:Loc}{o:AO}(hl:ρ a=some l)(hn:Nx ρ h.t.get w ρ (h.t.set a o).get w'):Way ρ h w ρ ⟨h.next,h.t.set a o⟩ w':=
 ⟨hn,hf,Nat.le_refl _,fun b hb e=>⟨e,by
   show(h.t.set a o).get b=_
   rw[T.ay,if_neg];intro he;rw[he,hl]at e;simp at e⟩⟩
theorem rX{ρ:aR}{h:H}{w w':World}(hf:cC ρ h.next){l:Loc}{o:AO}(hn:Nx ρ h.t.get w (lq ρ h.next l) (h.t.set h.next o).get w'):Way ρ h w (lq ρ h.next l) ⟨h.next+1,h.t.set h.next o⟩ w':=
 ⟨hn,yY hf,Nat.le_succ _,fun b hb e=>⟨by rw[cj (by omega)];exact e,by
   show(h.t.set h.next o).get b=_
   rw[T.ay,if_neg (by omega)]⟩⟩
def XJ:Value->Option AV
 | .bool b=>some (.bool b)
 | .int k n=>some (.int k n)
 | .string s=>some (.str s)
 | .pointer none=>some .aJ
 | .slice none 0 0=>some .ax
 | .map none=>some .kH
 | .nilFunc=>some .dQ
 | .nilIface=>some .pC
 |_=>none
def PB:List Value->Option (List AV)
 | []=>some []
 |V::L=>match XJ V with
  |some v=>match PB L with
   |some l=>some (v::l)
   |none=>none
  |none=>none
def cv:Value->Option AV
 | .agg cs=>(PB cs.toList).map .agg
 |V=>XJ V
theorem yZ{ρ:aR}{V:Value}{v:AV}(h:XJ V=some v):VR ρ v V/\one V=true:=by
 unfold XJ at h;split at h<;>first
  |(simp at h;subst h;exact⟨by simp[VR],rfl⟩)
  |simp at h
theorem nY{ρ:aR}:∀{L:List Value} {l:List AV},PB L=some l->bE ρ l L/\∀V∈L,one V=true
 | [],l,h=>by simp[PB]at h;subst h;exact⟨rfl,by simp⟩
 |V::L,l,h=>by
  unfold PB at h;split at h
  ·rename_i v hv;split at h
   ·rename_i m hm;simp at h;subst h;obtain⟨k1,k2⟩:=yZ (ρ:=ρ) hv;obtain⟨j1,j2⟩:=nY (ρ:=ρ) hm;exact⟨⟨V,L,k1,j1,rfl⟩,by simpa using⟨k2,j2⟩⟩
   ·simp at h
  ·simp at h
theorem Dg{ρ:aR}{V:Value}{v:AV}(h:cv V=some v):VR ρ v V:=by
 unfold cv at h;split at h
 ·rename_i cs;simp only[Option.map_eq_some_iff]at h;obtain⟨l,h1,rfl⟩:=h;exact⟨cs.toList,(nY h1).1,by simp⟩
 ·exact(yZ h).1
inductive cg where
 |t (n:Nat)
 |c (v:AV)
def aP:Operand->Option cg
 | .tmp t=>some (.t t)
 | .const v=>(cv v).map .c
 | .func f=>some (.c (.fn (.func f) [] []))
 | .global g=>cond (Nat.ble (g+1) eC) (some (.c (.ptr g 0))) none
def ki:List Operand->Option (List cg)
 | []=>some []
 |x::l=>match aP x with
  |some y=>match ki l with
   |some m=>some (y::m)
   |none=>none
  |none=>none
def cV(tm:T AV):cg->Option AV
 | .t n=>tm.get n
 | .c v=>some v
def yA(tm:T AV):List cg->Option (List AV)
 | []=>some []
 |x::l=>match cV tm x with
  |some v=>match yA tm l with
   |some m=>some (v::m)
   |none=>none
  |none=>none
def TR(ρ:aR)(tm:T AV)(tmps:Array Value):Prop:=∀i v,tm.get i=some v->i<tmps.size/\VR ρ v (tmps.getD i undef)
theorem TR.mono{ρ ρ':aR}(h:Le ρ ρ'){tm:T AV}{tmps:Array Value}(ht:TR ρ tm tmps):TR ρ' tm tmps:=
 fun i v hi=>⟨(ht i v hi).1,VR.mono h _ _ (ht i v hi).2⟩
theorem TR.set{ρ:aR}{tm:T AV}{tmps:Array Value}(ht:TR ρ tm tmps){d:Nat}{v:AV}{V:Value}(hd:d<tmps.size)(hv:VR ρ v V):
 TR ρ (tm.set d v) (tmps.setIfInBounds d V):=by
 intro i u hi;rw[T.ay]at hi
 by_cases e:i=d
 ·subst e;simp at hi;subst hi;refine⟨by simpa using hd,?_⟩;simpa [Array.getD_eq_getD_getElem?,hd]using hv
 ·rw[if_neg e]at hi;obtain⟨h1,h2⟩:=ht i u hi;refine⟨by simpa using h1,?_⟩;have:(tmps.setIfInBounds d V).getD i undef=tmps.getD i undef:=by
   simp only[Array.getD_eq_getD_getElem?,Array.getElem?_setIfInBounds_ne (Ne.symm e)]
  rw[this];exact h2
theorem ai{ρ:aR}{tm:T AV}{a:Act}(ht:TR ρ tm a.tmps){x:Operand}{y:cg}{v:AV}(hc:aP x=some y)(hv:cV tm y=some v):VR ρ v (a.eval x):=by
 cases x with
 |tmp t=>simp[aP]at hc;subst hc;exact(ht t v hv).2
 |const V=>
  simp only[aP,Option.map_eq_some_iff]at hc;obtain⟨u,h1,rfl⟩:=hc;simp[cV]at hv;subst hv;exact Dg h1
 |global g=>
  simp only[aP]at hc;cases hb:Nat.ble (g+1) eC with
  |false=>rw[hb]at hc;simp at hc
  |true=>
   rw[hb]at hc;simp at hc;subst hc;simp[cV]at hv;subst hv;obtain⟨r,e⟩:=ρ.own g (Nat.le_of_ble_eq_true hb);exact⟨_,e,rfl⟩
 |func f=>
  simp[aP]at hc;subst hc;simp[cV]at hv;subst hv;exact⟨[],[],rfl,rfl,rfl⟩
theorem fE{ρ:aR}{tm:T AV}{a:Act}(ht:TR ρ tm a.tmps):∀{xs:List Operand} {ys:List cg} {vs:List AV},ki xs=some ys->yA tm ys=some vs->bE ρ vs (xs.map a.eval)
 | [],ys,vs,hc,hv=>by simp[ki]at hc;subst hc;simp[yA]at hv;subst hv;rfl
 |x::xs,ys,vs,hc,hv=>by
  unfold ki at hc;split at hc
  ·rename_i y hy;split at hc
   ·rename_i m hm;simp at hc;subst hc;unfold yA at hv;split at hv
    ·rename_i v h1;split at hv
     ·rename_i vs' h2;simp at hv;subst hv;exact⟨_,_,ai ht hy h1,fE ht hm h2,rfl⟩
     ·simp at hv
    ·simp at hv
   ·simp at hc
  ·simp at hc
def sz(P:Program)(t:TypeId):Option Nat:=(P.info? t).map (·.size)
def dz(P:Program)(t:TypeId):Option (List AV):=
 match P.info? t with
 |some i=>match i.zero with
  |some z=>PB z.cells.toList
  |none=>none
 |none=>none
def kF(P:Program)(t:TypeId):Option (Option Nat):=
 match P.underlying t,sz P t with
 |some (.struct _),some n=>some (some n)
 |some (.array _ _),some n=>some (some n)
 |some _,some _=>some none
 |_,_=>none
theorem run_typeInfo{P:Program}{t:TypeId}{i:TypeInfo}(h:P.info? t=some i)(w:World):(typeInfo t).run P w=.ok i w:=by
 simp[typeInfo,h]
theorem run_underlying{P:Program}{t:TypeId}{d:TypeDesc}(h:P.underlying t=some d)(w:World):(underlying t).run P w=.ok d w:=by
 simp[underlying,h]
theorem run_sizeOf{P:Program}{t:TypeId}{n:Nat}(h:sz P t=some n)(w:World):(sizeOf t).run P w=.ok n w:=by
 simp only[sz,Option.map_eq_some_iff]at h;obtain⟨i,h1,rfl⟩:=h;simp[sizeOf,run_typeInfo h1]
theorem fp{P:Program}{t:TypeId}{l:List AV}(h:dz P t=some l)(ρ:aR)(w:World):∃z:Value,(zeroValue t).run P w=.ok z w/\bE ρ l z.cells.toList/\∀V∈z.cells.toList,one V=true:=by
 unfold dz at h;split at h
 ·rename_i i hi;split at h
  ·rename_i z hz;obtain⟨h1,h2⟩:=nY (ρ:=ρ) h;exact⟨z,by simp[zeroValue,run_typeInfo hi,hz],h1,h2⟩
  ·simp at h
 ·simp at h
theorem iE{P:Program}{t:TypeId}{g:Option Nat}(h:kF P t=some g)(w:World):(isAgg t).run P w=.ok g.isSome w:=by
 unfold kF at h;split at h<;>first
  |(rename_i h1 h2;simp at h;subst h;simp[isAgg,run_underlying h1];done)
  |(rename_i d h1 h2 h3 h4;simp at h;subst h;simp only[isAgg,Sem.run_bind,run_underlying h3,Result.andThen_ok];split<;>simp_all)
  |simp at h
theorem pM{P:Program}{t:TypeId}{n:Nat}(h:kF P t=some (some n)):sz P t=some n:=by
 unfold kF at h;split at h<;>simp_all
def JM(x y:Int):Bool:=match x,y with
 | .ofNat a,.ofNat b=>Nat.blt a b
 | .ofNat _,.negSucc _=>false
 | .negSucc _,.ofNat _=>true
 | .negSucc a,.negSucc b=>Nat.blt b a
def yK(x y:Int):Bool:=match x,y with
 | .ofNat a,.ofNat b=>Nat.beq a b
 | .negSucc a,.negSucc b=>Nat.beq a b
 |_,_=>false
theorem lJ(a b:Nat):Nat.blt a b=decide (a<b):=by
 show Nat.ble (a+1) b=_
 rw[Bool.eq_iff_iff,Nat.ble_eq];simp;omega
theorem beq_iff(a b:Nat):Nat.beq a b=decide (a=b):=by
 rw[Bool.eq_iff_iff,Nat.beq_eq];simp
theorem iN(x y:Int):JM x y=decide (x<y):=by
 unfold JM;split
 ·rw[lJ];rw[Bool.eq_iff_iff];simp
 ·rename_i a b;rw[Bool.eq_iff_iff];simp;omega
 ·rename_i a b;rw[Bool.eq_iff_iff];simp;omega
 ·rename_i a b;rw[lJ,Bool.eq_iff_iff];simp;omega
theorem gJ(x y:Int):yK x y=(x==y):=by
 unfold yK;split
 ·rename_i a b;rw[beq_iff,Bool.eq_iff_iff];simp only[decide_eq_true_eq,beq_iff_eq];exact⟨fun h=>by rw[h],fun h=>by injection h⟩
 ·rename_i a b;rw[beq_iff,Bool.eq_iff_iff];simp only[decide_eq_true_eq,beq_iff_eq];exact⟨fun h=>by rw[h],fun h=>by injection h⟩
 ·rename_i h1 h2;cases x<;>cases y<;>first
   |(rename_i a b;exact absurd rfl (h1 a b rfl))
   |(rename_i a b;exact absurd rfl (h2 a b rfl))
   |(rename_i a b;symm;rw[beq_eq_false_iff_ne];intro hh;cases hh)
def fw(k:IntKind)(n:Int):Int:=match n with
 | .ofNat m=>cond (Nat.blt m (match k with| .i8=>128| .u8=>256| .i16=>32768| .u16=>65536| .i32=>2147483648| .u32=>4294967296| .i64=>9223372036854775808| .u64=>18446744073709551616)) (.ofNat m) (k.wrap (.ofNat m))
 | .negSucc m=>cond (Nat.blt m (match k with| .i8=>128| .i16=>32768| .i32=>2147483648| .i64=>9223372036854775808|_=>0)) (.negSucc m) (k.wrap (.negSucc m))
theorem Bt(k:IntKind)(n:Int)(h:match k with| .i8=>-128<=n/\n<=127| .u8=>0<=n/\n<=255| .i16=>-32768<=n/\n<=32767| .u16=>0<=n/\n<=65535| .i32=>-2147483648<=n/\n<=2147483647| .u32=>0<=n/\n<=4294967295| .i64=>-9223372036854775808<=n/\n<=9223372036854775807| .u64=>0<=n/\n<=18446744073709551615):k.wrap n=n:=by
 cases k
 ·exact IntWalk.i8_in n h
 ·exact IntWalk.i16_in n h
 ·exact IntWalk.i32_in n h
 ·exact IntWalk.i64_in n h
 ·exact IntWalk.u8_in n h
 ·exact IntWalk.u16_in n h
 ·exact IntWalk.u32_in n h
 ·exact IntWalk.u64_in n h
theorem tW(k:IntKind)(n:Int):fw k n=k.wrap n:=by
 unfold fw;split
 ·rename_i m;cases h:Nat.blt m _
  ·rfl
  ·rw[lJ,decide_eq_true_eq]at h
   show(m:Int)=k.wrap (m:Int)
   refine(Bt k _ ?_).symm;cases k<;>(dsimp only at h⊢;omega)
 ·rename_i m;cases h:Nat.blt m _
  ·rfl
  ·rw[lJ,decide_eq_true_eq]at h
   show Int.negSucc m=k.wrap (Int.negSucc m)
   refine(Bt k _ ?_).symm;cases k<;>(dsimp only at h⊢;omega)
def cw(op:BinOp)(k:IntKind)(x y:Int):Option AV:=match op with
 | .add=>some (.int k (fw k (Int.add x y)))
 | .sub=>some (.int k (fw k (Int.sub x y)))
 | .mul=>some (.int k (fw k (Int.mul x y)))
 | .quo=>cond (yK y 0) none (some (.int k (fw k (Int.tdiv x y))))
 | .rem=>cond (yK y 0) none (some (.int k (Int.tmod x y)))
 | .and=>some (.int k (fw k (BitVec.ofInt k.bits x&&&BitVec.ofInt k.bits y).toNat))
 | .or=>some (.int k (fw k (BitVec.ofInt k.bits x|||BitVec.ofInt k.bits y).toNat))
 | .xor=>some (.int k (fw k (BitVec.ofInt k.bits x^^^BitVec.ofInt k.bits y).toNat))
 | .andNot=>some (.int k (fw k (BitVec.ofInt k.bits x&&&~~~BitVec.ofInt k.bits y).toNat))
 | .eql=>some (.bool (yK x y))
 | .neq=>some (.bool (!yK x y))
 | .lss=>some (.bool (JM x y))
 | .leq=>some (.bool (!JM y x))
 | .gtr=>some (.bool (JM y x))
 | .geq=>some (.bool (!JM x y))
 |_=>none
theorem Dh{P:Program}{op:BinOp}{k:IntKind}{x y:Int}{v:AV}(h:cw op k x y=some v){ρ:aR}:∃V,VR ρ v V/\one V=true/\∀t w,(binOp op t (.int k x) (.int k y)).run P w=.ok V w:=by
 unfold cw at h;have hle:∀a b:Int,(!decide (b<a))=decide (a<=b):=fun a b=>by rw[Bool.eq_iff_iff];simp
 cases op<;>simp only[tW,gJ,iN,hle]at h
 case quo=>
  cases hy:(y==(0:Int))
  ·rw[hy]at h;simp at h;subst h;have:¬y=0:=by simpa using hy
   exact⟨_,rfl,rfl,fun t w=>by simp[binOp,Op.intDiv,this]⟩
  ·rw[hy]at h;simp at h
 case rem=>
  cases hy:(y==(0:Int))
  ·rw[hy]at h;simp at h;subst h;have:¬y=0:=by simpa using hy
   exact⟨_,rfl,rfl,fun t w=>by simp[binOp,Op.intDiv,this]⟩
  ·rw[hy]at h;simp at h
 all_goals first
  |(simp at h;done)
  |(simp only[Option.some.injEq]at h;subst h;exact⟨_,rfl,rfl,fun t w=>by simp[binOp,Op.intArith,Op.intBits,Op.intCmp,bne,Int.add_def,Int.mul_def]<;>rfl⟩)
def iH(P:Program)(t:TypeId)(l:List AV)(off:Nat):Option AV:=
 match kF P t with
 |some none=>l[off]?
 |some (some n)=>cond (Nat.ble (off+n) l.length) (some (.agg ((l.drop off).take n))) none
 |none=>none
theorem eI{P:Program}{t:TypeId}{l:List AV}{off:Nat}{v:AV}(h:iH P t l off=some v){ρ:aR}{L:List Value}(hl:bE ρ l L):
 ∃V,VR ρ v V/\∀w,(part t L.toArray off).run P w=.ok V w:=by
 unfold iH at h;split at h
 ·rename_i ha;obtain⟨V,h1,h2⟩:=hl.get h;exact⟨V,h2,fun w=>by simp[part,iE ha,h1]⟩
 ·rename_i n ha;cases hc:Nat.ble (off+n) l.length
  ·rw[hc]at h;simp at h
  ·rw[hc]at h;simp at h;subst h;refine⟨.agg ((L.drop off).take n).toArray,⟨_,(hl.drop off).take n,rfl⟩,fun w=>?_⟩;simp only[part,Sem.run_bind,iE ha,Result.andThen_ok,Option.isSome,if_true,run_sizeOf (pM ha),Sem.run_pure];simp[List.extract_eq_take_drop]
 ·simp at h
def PC:List UInt8->List UInt8->Bool
 | [],[]=>true
 |a::l,b::m=>match Nat.beq a.toNat b.toNat with
  |true=>PC l m
  |false=>false
 |_,_=>false
def rY(x y:ByteArray):Bool:=PC x.data.toList y.data.toList
theorem Gl:∀l m:List UInt8,PC l m=(l==m)
 | [],[]=>rfl
 | [],_::_=>rfl
 |_::_,[]=>rfl
 |a::l,b::m=>by
  unfold PC;rw[List.cons_beq_cons,←Gl l m]
  by_cases h:a=b
  ·subst h;simp
  ·have hn:¬a.toNat=b.toNat:=fun e=>h (UInt8.toNat_inj.1 e)
   have hb:Nat.beq a.toNat b.toNat=false:=by
        cases hh:Nat.beq a.toNat b.toNat
        ·rfl
        ·exact absurd (Nat.eq_of_beq_eq_true hh) hn
   simp[hb,h]
theorem lK(x y:ByteArray):rY x y=(x.toList==y.toList):=by
 unfold rY;rw[Gl,ByteArray.toList_eq,ByteArray.toList_eq]
theorem wS(x y:ByteArray):rY x y=(x==y):=by rw[lK,beq_toListBytes]
def Hv(rec:TypeId->AV->AV->Option Bool)(P:Program)(xs ys:List AV):List Field->Option Bool
 | []=>some true
 |f::fs=>cond (decide (f.name≠ "_"))
   (match iH P f.type xs f.offset,iH P f.type ys f.offset with
    |some a,some b=>match rec f.type a b with
     |some true=>Hv rec P xs ys fs
     |some false=>some false
     |none=>none
    |_,_=>none)
   (Hv rec P xs ys fs)
def Lc(rec:TypeId->AV->AV->Option Bool)(P:Program)(e:TypeId)(c:Nat)(xs ys:List AV):List Nat->Option Bool
 | []=>some true
 |i::is=>match iH P e xs (i*c),iH P e ys (i*c)with
    |some a,some b=>match rec e a b with
     |some true=>Lc rec P e c xs ys is
     |some false=>some false
     |none=>none
    |_,_=>none
def XR(P:Program):Nat->TypeId->AV->AV->Option Bool
 |0,_,_,_=>none
 |d+1,t,x,y=>match P.underlying t with
  |some .bool=>match x,y with| .bool a,.bool b=>some (a==b)|_,_=>none
  |some (.int _)=>match x,y with| .int k a,.int k' b=>cond (decide (k=k')) (some (yK a b)) none|_,_=>none
  |some .string=>match x,y with| .str a,.str b=>some (rY a b)|_,_=>none
  |some (.struct fs)=>match x,y with| .agg xs,.agg ys=>cond (P.stoodInHeld t) none (Hv (XR P d) P xs ys fs.toList)|_,_=>none
  |some (.array n e)=>match x,y with
   | .agg xs,.agg ys=>match P.info? e with
     |some _=>Lc (XR P d) P e (P.cellsOf e) xs ys (List.range n)
     |none=>none
   |_,_=>none
  |_=>none
theorem pN{P:Program}{d:Nat}{rec:TypeId->AV->AV->Option Bool}
 (wT:∀t a b r,rec t a b=some r->∀(ρ:aR) (A B:Value),VR ρ a A->VR ρ b B->∀w,(Op.equalIn d t A B).run P w=.ok r w)
 {xs ys:List AV} {ρ:aR} {XS YS:List Value} (hx:bE ρ xs XS) (hy:bE ρ ys YS):∀{fs:List Field} {r:Bool},Hv rec P xs ys fs=some r->∀w,(Op.eqFields d XS.toArray YS.toArray fs).run P w=.ok r w
 | [],r,h,w=>by simp[Hv]at h;subst h;simp[Op.eqFields]
 |f::fs,r,h,w=>by
  unfold Hv at h;unfold Op.eqFields
  by_cases hn:f.name≠ "_"
  ·rw[if_pos hn];rw[decide_eq_true hn,cond_true]at h;split at h
   ·rename_i a b ha hb;obtain⟨A,h1,h2⟩:=eI ha hx;obtain⟨B,h3,h4⟩:=eI hb hy;split at h
    ·rename_i hr;have:=wT _ _ _ _ hr _ _ _ h1 h3 w;simp only[Sem.run_bind,h2,h4,Result.andThen_ok,this,Bool.not_true,Bool.false_eq_true,if_false];exact pN wT hx hy h w
    ·rename_i hr;simp at h;subst h;have:=wT _ _ _ _ hr _ _ _ h1 h3 w;simp[h2,h4,this]
    ·simp at h
   ·simp at h
  ·rw[if_neg hn];rw[decide_eq_false hn]at h;exact pN wT hx hy h w
theorem wU{P:Program}{d:Nat}{rec:TypeId->AV->AV->Option Bool}
 (wT:∀t a b r,rec t a b=some r->∀(ρ:aR) (A B:Value),VR ρ a A->VR ρ b B->∀w,(Op.equalIn d t A B).run P w=.ok r w)
 {xs ys:List AV} {ρ:aR} {XS YS:List Value} (hx:bE ρ xs XS) (hy:bE ρ ys YS) {e:TypeId} {c:Nat}:∀{is:List Nat} {r:Bool},Lc rec P e c xs ys is=some r->∀w,(Op.eqItems d e c XS.toArray YS.toArray is).run P w=.ok r w
 | [],r,h,w=>by simp[Lc]at h;subst h;simp[Op.eqItems]
 |i::is,r,h,w=>by
  unfold Lc at h;unfold Op.eqItems;split at h
  ·rename_i a b ha hb;obtain⟨A,h1,h2⟩:=eI ha hx;obtain⟨B,h3,h4⟩:=eI hb hy;split at h
   ·rename_i hr;have:=wT _ _ _ _ hr _ _ _ h1 h3 w;simp only[Sem.run_bind,h2,h4,Result.andThen_ok,this,Bool.not_true,Bool.false_eq_true,if_false];exact wU wT hx hy h w
   ·rename_i hr;simp at h;subst h;have:=wT _ _ _ _ hr _ _ _ h1 h3 w;simp[h2,h4,this]
   ·simp at h
  ·simp at h
theorem tu{P:Program}:∀(d:Nat) (t:TypeId) (a b:AV) (r:Bool),XR P d t a b=some r->∀(ρ:aR) (A B:Value),VR ρ a A->VR ρ b B->∀w,(Op.equalIn d t A B).run P w=.ok r w
 |0,t,a,b,r,h=>by simp[XR]at h
 |d+1,t,a,b,r,h=>by
  intro ρ A B hA hB w;unfold XR at h;split at h
  ·rename_i hu;split at h
   ·simp only[VR]at hA hB;subst hA hB;simp at h;subst h;simp[Op.equalIn,Go.Proofs.YtgkjlklfjbljeaaGreat.Eo.run_underlying hu]
   ·simp at h
  ·rename_i hu;split at h
   ·rename_i k a k' b;simp only[VR]at hA hB;subst hA hB
    by_cases hk:k=k'
    ·simp[hk]at h;subst h;simp[Op.equalIn,Go.Proofs.YtgkjlklfjbljeaaGreat.Eo.run_underlying hu,hk,gJ]
    ·simp[hk]at h
   ·simp at h
  ·rename_i hu;split at h
   ·simp only[VR]at hA hB;subst hA hB;simp at h;subst h;simp[Op.equalIn,Go.Proofs.YtgkjlklfjbljeaaGreat.Eo.run_underlying hu,wS]
   ·simp at h
  ·rename_i fs hu;split at h
   ·rename_i xs ys;simp only[VR]at hA hB;obtain⟨XS,h1,rfl⟩:=hA;obtain⟨YS,h2,rfl⟩:=hB;cases ri:P.stoodInHeld t
    ·rw[ri]at h;simp only[cond_false]at h;have hf:P.fieldsOf t=fs:=by simp[Program.fieldsOf,hu]
     rw[run_equalIn_struct w d t _ _ (by rw[hf];exact hu) ri,hf];exact pN (fun t a b r h=>tu d t a b r h) h1 h2 h w
    ·rw[ri]at h;simp at h
   ·simp at h
  ·rename_i n e hu;split at h
   ·rename_i xs ys;simp only[VR]at hA hB;obtain⟨XS,h1,rfl⟩:=hA;obtain⟨YS,h2,rfl⟩:=hB;split at h
    ·rename_i i hi;rw[run_equalIn_array w d _ _ hu hi];exact wU (fun t a b r h=>tu d t a b r h) h1 h2 h w
    ·simp at h
   ·simp at h
  ·simp at h
def PH(y:Nat):AV->Option Nat
 | .int _ (.ofNat m)=>cond (Nat.ble m y) (some m) none
 |_=>none
theorem Bu{y m:Nat}{a:AV}(h:PH y a=some m):m<=y:=by
 unfold PH at h;split at h
 ·rename_i k m';cases hc:Nat.ble m' y
  ·rw[hc]at h;simp at h
  ·rw[hc]at h;simp at h;subst h;exact Nat.le_of_ble_eq_true hc
 ·simp at h
theorem kR{P:Program}{ρ:aR}{y z m:Nat}{a:AV}{A:Value}(ha:VR ρ a A)(h:PH y a=some m)(hz:y<=z)(code:BoundsCode)(w:World):(Instr.sliceBound A z code).run P w=.ok m w:=by
 have hle:=Bu h;unfold PH at h;split at h
 ·rename_i k m';cases hc:Nat.ble m' y
  ·rw[hc]at h;simp at h
  ·rw[hc]at h;simp at h;subst h;simp only[VR]at ha;subst ha;have h1:(0:Int)<=Int.ofNat m'/\Int.ofNat m'<=(z:Int):=by constructor<;>simp<;>omega
   simp only[Instr.sliceBound,Sem.run_bind,asIntOf,Sem.run_pure,Result.andThen_ok,if_pos h1];simp
 ·simp at h
def rZ(y d:Nat):Option AV->Option Nat
 |some v=>PH y v
 |none=>some d
def Hw(ρ:aR):Option AV->Option Value->Prop
 |none,none=>True
 |some v,some V=>VR ρ v V
 |_,_=>False
theorem Bv{y d m:Nat}{a:Option AV}(h:rZ y d a=some m)(hd:d<=y):m<=y:=by
 cases a with
 |some v=>exact Bu h
 |none=>simp[rZ]at h;omega
theorem pO{P:Program}{ρ:aR}{y z d m:Nat}{a:Option AV}{A:Option Value}(ha:Hw ρ a A)(h:rZ y d a=some m)(hz:y<=z)(code:BoundsCode)(w:World):
 (match A with|some v=>Instr.sliceBound v z code|none=>pure d:Sem Nat).run P w=.ok m w:=by
 cases a with
 |some v=>
  cases A with
  |some V=>exact kR (ρ:=ρ) ha h hz code w
  |none=>exact False.elim ha
 |none=>
  cases A with
  |some V=>exact False.elim ha
  |none=>simp[rZ]at h;subst h;rfl
def Ld(len:Nat)(cap:Option Nat)(lo hi mx:Option AV):Option (Nat×Nat×Option Nat):=
 match mx with
 |some v=>match PH (cap.getD len) v with
  |some m=>match hi with
   |some u=>match PH m u with
    |some h=>match rZ h 0 lo with
     |some l=>some (l,h,some m)
     |none=>none
    |none=>none
   |none=>none
  |none=>none
 |none=>match rZ (cap.getD len) len hi with
  |some h=>match rZ h 0 lo with
   |some l=>some (l,h,cap)
   |none=>none
  |none=>none
theorem eJ{P:Program}{ρ:aR}{len:Nat}{cap:Option Nat}{lo hi mx:Option AV}{LO HI MX:Option Value}(h1:Hw ρ lo LO)(h2:Hw ρ hi HI)(h3:Hw ρ mx MX){l h:Nat}{m:Option Nat}
 (hb:Ld len cap lo hi mx=some (l,h,m)) {C:Nat} (hC:∀c,cap=some c->c=C) (hlen:len<=C) (s:Bool) (w:World):
 (Instr.sliceBounds s len C LO HI MX).run P w=.ok (l,h,m.getD C) w/\l<=h/\(m=cap\/m.isSome=true)/\(∀x,m=some x->h<=x/\x<=C)/\(cap=none->h<=len)/\(cap=none->∀x,m=some x->x<=len):=by
 have ac7:cap.getD len<=C:=by
  cases cap with
  |none=>exact hlen
  |some c=>have:=hC c rfl;simp;omega
 have ac8:len<=cap.getD len:=by
  cases cap with
  |none=>simp
  |some c=>have:=hC c rfl;simp;omega
 have Lg:cap=none->cap.getD len=len:=fun e=>by rw[e];rfl
 unfold Ld at hb;cases mx with
 |some mv=>
  cases MX with
  |none=>exact False.elim h3
  |some MV=>
   simp only[]at hb;split at hb
   ·rename_i m' hm;split at hb
    ·rename_i hv;cases HI with
     |none=>exact False.elim h2
     |some HV=>
      split at hb
      ·rename_i h' hh;split at hb
       ·rename_i l' hl;simp at hb;obtain⟨rfl,rfl,rfl⟩:=hb;have e1:=kR (P:=P) (ρ:=ρ) h3 hm ac7 (if s then .slice3Acap else .slice3Alen) w;have e2:=kR (P:=P) (ρ:=ρ) h2 hh (Nat.le_refl _) .slice3B w;have k1:=Bu hm;have k2:=Bu hh;have k3:=Bv hl (Nat.zero_le _);have e3:=pO (P:=P) h1 hl (Nat.le_refl _) .slice3C w;refine⟨?_,k3,.inr rfl,fun x hx=>?_,fun hc=>?_,fun hc x hx=>?_⟩
        ·simp only[Instr.sliceBounds,Sem.run_bind,e1,Result.andThen_ok,e2];cases LO with
         |none=>simp only[Sem.run_pure]at e3;injection e3 with e3;subst e3;simp
         |some LV=>simp only[]at e3;simp[e3]
        ·simp at hx;omega
        ·have:=Lg hc;omega
        ·have:=Lg hc;simp at hx;omega
       ·simp at hb
      ·simp at hb
    ·simp at hb
   ·simp at hb
 |none=>
  cases MX with
  |some MV=>exact False.elim h3
  |none=>
   simp only[]at hb;split at hb
   ·rename_i h' hh;split at hb
    ·rename_i l' hl;simp at hb;obtain⟨rfl,rfl,rfl⟩:=hb;have k2:=Bv hh ac8;have k3:=Bv hl (Nat.zero_le _);have e2:=pO (P:=P) h2 hh ac7 (if s then .sliceAcap else .sliceAlen) w;have e3:=pO (P:=P) h1 hl (Nat.le_refl _) .sliceB w;refine⟨?_,k3,.inl rfl,fun x hx=>?_,fun hc=>?_,fun hc x hx=>?_⟩
     ·have Hx:cap.getD C=C:=by
       cases cap with
       |none=>rfl
       |some c=>exact hC c rfl
      simp only[Instr.sliceBounds,Sem.run_bind,Sem.run_pure,Result.andThen_ok];cases HI with
      |none=>
       simp only[Sem.run_pure,Result.andThen_ok]at e2⊢;injection e2 with e2;subst e2
       cases LO with
       |none=>simp only[Sem.run_pure,Result.andThen_ok]at e3⊢;injection e3 with e3;subst e3;simp[Hx]
       |some LV=>simp only[]at e3;simp[e3,Hx]
      |some HV=>
       simp only[]at e2;cases LO with
       |none=>simp only[Sem.run_pure]at e3;injection e3 with e3;subst e3;simp[e2,Hx]
       |some LV=>simp only[]at e3;simp[e2,e3,Hx]
     ·have:=hC x hx;rw[hx]at k2;simp at k2;omega
     ·have:=Lg hc;omega
     ·rw[hc]at hx;simp at hx
    ·simp at hb
   ·simp at hb
def Gp(es:Nat)(x:AV)(lo hi mx:Option AV):Option AV:=match x with
 | .sl a o len nI cap=>cond (Nat.beq es nI)
   (match Ld len cap lo hi mx with
    |some (l,h,none)=>some (.sl a (o+l*es) (h-l) es none)
    |some (l,h,some m)=>cond (cap.isSome||Nat.blt 0 len) (some (.sl a (cond (Nat.beq m l) o (o+l*es)) (h-l) es (some (m-l)))) none
    |none=>none) none
 | .ax=>match Ld 0 (some 0) lo hi mx with
   |some _=>some .ax
   |none=>none
 |_=>none
theorem Di{P:Program}{t elem:TypeId}{es:Nat}(ht:P.underlying t=some (.slice elem))(hs:sz P elem=some es){ρ:aR}{x v:AV}{lo hi mx:Option AV}{X:Value}{LO HI MX:Option Value}
 (hx:VR ρ x X) (h1:Hw ρ lo LO) (h2:Hw ρ hi HI) (h3:Hw ρ mx MX) (h:Gp es x lo hi mx=some v):∃V,VR ρ v V/\∀w,(Instr.sliceAt t X LO HI MX).run P w=.ok V w:=by
 unfold Gp at h;split at h
 ·rename_i a o len nI cap;cases he:Nat.beq es nI
  ·rw[he]at h;simp at h
  ·rw[he,cond_true]at h;have ME:es=nI:=Nat.eq_of_beq_eq_true he;subst ME;split at h
   ·rename_i l hh hb;simp at h;subst h;cases cap with
    |some c=>
     exfalso;have:=(eJ (P:=P) h1 h2 h3 hb (C:=max c len) (fun c' xY=>by simp at xY;subst xY;simp only[VR]at hx;obtain⟨_,_,hle,_⟩:=hx;omega) (by omega) true default).2.2.1;rcases this with hm|hm
     ·simp at hm
     ·simp at hm
    |none=>
     simp only[VR]at hx;obtain⟨loc,hr,sQ,CU,hX⟩:=hx;have hlen:len<=(loc.room-o)/es:=by
      rw[Nat.le_div_iff_mul_le sQ];omega
     rcases hX with rfl|⟨rfl,x0,rfl⟩
     ·obtain⟨gf,hlh,hm,_,Wt,_⟩:=eJ (P:=P) h1 h2 h3 hb (C:=(loc.room-o)/es) (fun c hc=>by simp at hc) hlen true default;have ac9:=Wt rfl;have Hx:(loc.room-o)/es-l=(loc.room-(o+l*es))/es:=by
         rw[←Nat.sub_sub,Nat.mul_comm l es,Nat.sub_mul_div]
      refine⟨.slice (some (if(loc.room-o)/es=l then⟨loc.b9,loc.off+o,none⟩else⟨loc.b9,loc.off+o+l*es,none⟩)) (hh-l) ((loc.room-o)/es-l),?_,fun w=>?_⟩
      ·simp only[VR];have hmul:(hh-l)*es=hh*es-l*es:=Nat.sub_mul _ _ _;have Wu:l*es<=hh*es:=Nat.mul_le_mul_right _ hlh;have azU:hh*es<=len*es:=Nat.mul_le_mul_right _ ac9;refine⟨loc,hr,sQ,by omega,?_⟩
       by_cases hz:(loc.room-o)/es=l
       ·have:hh-l=0:=by omega
        right;rw[this,if_pos hz];exact⟨rfl,⟨loc.b9,loc.off+o,none⟩,by rw[hz];simp⟩
       ·left;rw[if_neg hz,Hx];simp[Nat.add_assoc]
      ·obtain⟨gf,_⟩:=eJ (P:=P) h1 h2 h3 hb (C:=(loc.room-o)/es) (fun c hc=>by simp at hc) hlen true w;simp only[Instr.sliceAt,Instr.slice,Sem.run_bind,Go.Proofs.YtgkjlklfjbljeaaGreat.Eo.run_underlying ht,Result.andThen_ok,gf,run_sizeOf hs,Sem.run_pure,Option.getD_none,Option.map_some,fo];split<;>simp_all
     ·obtain⟨gf,hlh,hm,_,Wt,_⟩:=eJ (P:=P) h1 h2 h3 hb (C:=0) (fun c hc=>by simp at hc) (Nat.le_refl _) true default;have ac9:=Wt rfl;have l0:l=0:=by omega
      have h0:hh=0:=by omega
      subst l0 h0;refine⟨.slice (some x0) 0 0,?_,fun w=>?_⟩
      ·simp only[VR];exact⟨loc,hr,sQ,by simp;omega,.inr ⟨by simp,x0,by simp⟩⟩
      ·obtain⟨gf,_⟩:=eJ (P:=P) h1 h2 h3 hb (C:=0) (fun c hc=>by simp at hc) (Nat.le_refl _) true w;simp only[Instr.sliceAt,Instr.slice,Sem.run_bind,Go.Proofs.YtgkjlklfjbljeaaGreat.Eo.run_underlying ht,Result.andThen_ok,gf,run_sizeOf hs,Sem.run_pure,Option.getD_none,if_true]
   ·rename_i l hh m hb;cases vI:(cap.isSome||Nat.blt 0 len)
    ·rw[vI]at h;simp at h
    ·rw[vI,cond_true]at h;simp only[Option.some.injEq]at h;have key:∃loc C,ρ a=some loc/\X=.slice (some ⟨loc.b9,loc.off+o,none⟩) len C/\(∀c,cap=some c->c=C)/\len<=C:=by
      cases cap with
      |some c=>
       simp only[VR]at hx;obtain⟨loc,hr,hle,hX⟩:=hx;exact⟨loc,c,hr,hX,fun c' xY=>by simp at xY;exact xY.symm,hle⟩
      |none=>
       simp only[VR]at hx;obtain⟨loc,hr,sQ,CU,hX⟩:=hx;simp[lJ]at vI;rcases hX with hX|⟨h0,_⟩
       ·exact⟨loc,_,hr,hX,fun c hc=>by simp at hc,by rw[Nat.le_div_iff_mul_le sQ];omega⟩
       ·omega
     obtain⟨loc,C,hr,rfl,hC,hlen⟩:=key;obtain⟨_,hlh,_,hmx,_⟩:=eJ (P:=P) h1 h2 h3 hb hC hlen true default;have hm2:=hmx m rfl;refine⟨.slice (some (if m=l then⟨loc.b9,loc.off+o,none⟩else⟨loc.b9,loc.off+o+l*es,none⟩)) (hh-l) (m-l),?_,fun w=>?_⟩
     ·subst h;simp only[VR];refine⟨loc,hr,by omega,?_⟩;rw[beq_iff]
      by_cases e:m=l<;>simp[e,Nat.add_assoc]
     ·obtain⟨gf,_⟩:=eJ (P:=P) h1 h2 h3 hb hC hlen true w;simp only[Instr.sliceAt,Instr.slice,Sem.run_bind,Go.Proofs.YtgkjlklfjbljeaaGreat.Eo.run_underlying ht,Result.andThen_ok,gf,run_sizeOf hs,Sem.run_pure,Option.getD_some,Option.map_some,fo];split<;>simp_all
   ·simp at h
 ·simp only[VR]at hx;subst hx;split at h
  ·rename_i b hb;obtain⟨l,hh,m⟩:=b;simp at h;subst h;refine⟨.slice none 0 0,by simp[VR],fun w=>?_⟩;obtain⟨gf,hlh,hm,hx,_,_⟩:=eJ (P:=P) h1 h2 h3 hb (C:=0) (fun c hc=>by simpa using hc.symm) (Nat.le_refl _) true w;have hm0:m.getD 0=0/\hh=0:=by
        rcases hm with rfl|hm
        ·have:=hx 0 rfl;simp;omega
        ·cases m with
         |none=>simp at hm
         |some x=>have:=hx x rfl;simp;omega
   have hl0:l=0:=by omega
   simp only[Instr.sliceAt,Instr.slice,Sem.run_bind,Go.Proofs.YtgkjlklfjbljeaaGreat.Eo.run_underlying ht,Result.andThen_ok,gf,run_sizeOf hs,Sem.run_pure,hm0.1,hm0.2,hl0];simp
  ·simp at h
 ·simp at h
def sa:Option Operand->Option (Option cg)
 |none=>some none
 |some x=>match aP x with
  |some y=>some (some y)
  |none=>none
def EO(tm:T AV):Option cg->Option (Option AV)
 |none=>some none
 |some x=>match cV tm x with
  |some v=>some (some v)
  |none=>none
theorem pP{ρ:aR}{tm:T AV}{a:Act}(ht:TR ρ tm a.tmps){x:Option Operand}{y:Option cg}{v:Option AV}(hc:sa x=some y)(hv:EO tm y=some v):Hw ρ v (x.map a.eval):=by
 cases x with
 |none=>simp[sa]at hc;subst hc;simp[EO]at hv;subst hv;trivial
 |some x=>
  unfold sa at hc;simp only[]at hc;split at hc
  ·rename_i z hz;simp at hc;subst hc;unfold EO at hv;simp only[]at hv;split at hv
   ·rename_i u hu;simp at hv;subst hv;exact ai ht hz hu
   ·simp at hv
  ·simp at hc
inductive PI where
 |mv (x:cg)
 |pick (c a b:cg)
 |build (zero:List AV) (ps:List (Nat×Nat×cg))
 |rp (x:cg)
 |bin (op:BinOp) (t:TypeId) (cx cy:Bool) (x y:cg)
 |un (op:UnOp) (x:cg)
 |conv (k:IntKind) (x:cg)
 |Lh (x:cg)
 |ML (t:TypeId) (x:cg)
 |GQ (f:Fn) (fs cs:List cg)
 |MN (es:Nat) (x:cg) (lo hi mx:Option cg)
 |uC (off:Nat) (x:cg)
 |Qf (t:TypeId) (off:Nat) (x:cg)
 |mj (es:Nat) (x i:cg)
 |tP (len es:Nat) (x i:cg)
 |Iv (len:Nat) (t:TypeId) (es:Nat) (x i:cg)
 |GP (x:cg) (i:Nat)
 |As (x:cg)
 |lens (x:cg)
 |Hy (x:cg)
 |mm (isMax:Bool) (x:cg) (ys:List cg)
 |Wv (x:cg)
 |tas (t:TypeId) (x:cg)
def sd(k:Nat):List AV->List AV->List AV
 | [],zs=>zs
 |c::l,zs=>sd (k+1) l (zs.set k c)
def aY:AV->Bool
 | .agg _| .aE _=>false
 |_=>true
def ik:AV->Option (List AV)
 | .agg l=>cond (l.all aY) (some l) none
 | .aE _=>none
 |v=>some [v]
def ky(tm:T AV):List (Nat×Nat×cg)->List AV->Option (List AV)
 | [],zs=>some zs
 |(off,size,x)::ps,zs=>match cV tm x with
  |some v=>match ik v with
   |some l=>cond (Nat.beq l.length size&&Nat.ble (off+l.length) zs.length) (ky tm ps (sd off l zs)) none
   |none=>none
  |none=>none
def bT(P:Program)(op:BinOp)(t:TypeId)(cx cy:Bool):AV->AV->Option AV
 | .int k x,.int k' y=>match op with
   | .shl=>cond (JM y 0) none (some (.int k (fw k (Int.mul x (2^(min y.toNat k.bits))))))
   | .shr=>cond (JM y 0) none (some (.int k (x.fdiv (2^(min y.toNat k.bits)))))
   |_=>cond (decide (k=k')) (cw op k x y) none
 | .str x,.str y=>match op with
   | .eql=>some (.bool (rY x y))
   | .neq=>some (.bool (!(rY x y)))
   | .add=>match Nat.ble (x.data.toList.length+y.data.toList.length) 9223372036854775807 with
     |true=>some (.str ⟨(x.data.toList++y.data.toList).toArray⟩)
     |false=>none
   |_=>none
 | .bool x,.bool y=>match P.underlying t with
   |some .bool=>match op with
    | .eql=>some (.bool (x==y))
    | .neq=>some (.bool (!(x==y)))
    |_=>none
   |_=>none
 | .agg xs,.agg ys=>cond (P.eqGuardType P.depth t) none (match XR P 10000 t (.agg xs) (.agg ys)with
   |some b=>match op with
    | .eql=>some (.bool b)
    | .neq=>some (.bool (!b))
    |_=>none
   |none=>none)
 |x,y=>match mO P t cx cy x y with
  |some b=>match op with
   | .eql=>some (.bool b)
   | .neq=>some (.bool (!b))
   |_=>none
  |none=>none
where
 mO (P:Program) (t:TypeId) (cx cy:Bool) (x y:AV):Option Bool:=match P.underlying t with
  |some (.pointer _)=>match x,y with
   | .aJ,.aJ=>some true
   | .aJ,.ptr _ _=>some false
   | .ptr _ _,.aJ=>some false
   |_,_=>none
  |some (.slice _)=>match x,y with
   | .ax,.ax=>some true
   | .ax,.sl _ _ _ _ _=>some false
   | .sl _ _ _ _ _,.ax=>some false
   |_,_=>none
  |some (.map _ _)=>match x,y with
   | .kH,.kH=>some true
   | .kH,.map _=>some false
   | .map _,.kH=>some false
   |_,_=>none
  |some (.func _ _ _)=>match x,y with
   | .dQ,.dQ=>some true
   | .dQ,.fn _ _ _=>some false
   | .fn _ _ _,.dQ=>some false
   |_,_=>none
  |some (.interface _)=>match x,y with
   | .pC,.pC=>cond (cx||cy) (some true) none
   | .pC,.dR _ _=>some false
   | .dR _ _,.pC=>some false
   |_,_=>none
  |_=>none
def wX(len:Nat):AV->Option Nat
 | .int _ (.ofNat m)=>cond (Nat.blt m len) (some m) none
 |_=>none
def SU(isMax:Bool)(a:AV):List AV->Option AV
 | []=>some a
 |b::bs=>match a,b with
  | .int k x,.int _ y=>SU isMax (.int k (cond isMax (cond (JM x y) y x) (cond (JM y x) y x))) bs
  |_,_=>none
def bt(tm:T AV)(c:cg)(a:cg)(b:cg):Option AV:=match cV tm c with
    |some (.bool t)=>cond t (cV tm a) (cV tm b)
    |_=>none
def aU(tm:T AV)(x:cg):Option AV:=match cV tm x with
    |some .aJ=>none
    |some .pC=>none
    |some .dQ=>none
    |some (.fn (.func f) fs cs)=>some (.fn (.func f) fs cs)
    |some (.fn _ _ _)=>none
    |some v=>some v
    |none=>none
def bV(P:Program)(tm:T AV)(op:BinOp)(t:TypeId)(cx:Bool)(cy:Bool)(x:cg)(y:cg):Option AV:=match cV tm x,cV tm y with
    |some a,some b=>bT P op t cx cy a b
    |_,_=>none
def cU(tm:T AV)(op:UnOp)(x:cg):Option AV:=match op,cV tm x with
    | .neg,some (.int k n)=>some (.int k (fw k (Int.sub 0 n)))
    | .xor,some (.int k n)=>cw .xor k (if k.signed then-1 else k.max) n
    | .not,some (.bool b)=>some (.bool (!b))
    |_,_=>none
def bw(tm:T AV)(k:IntKind)(x:cg):Option AV:=match cV tm x with
    |some (.int _ n)=>some (.int k (fw k n))
    |_=>none
def bg(tm:T AV)(x:cg):Option AV:=match cV tm x with
    |some (.str s)=>some (.str s)
    |some (.int _ n)=>some (.str (Utf8.encode n))
    |_=>none
def bG(tm:T AV)(t:TypeId)(x:cg):Option AV:=match cV tm x with
    |some v=>some (.dR t v)
    |none=>none
def bH(tm:T AV)(f:Fn)(fs:List cg)(cs:List cg):Option AV:=match yA tm fs,yA tm cs with
    |some a,some b=>some (.fn f a b)
    |_,_=>none
def ca(tm:T AV)(es:Nat)(x:cg)(lo:Option cg)(hi:Option cg)(mx:Option cg):Option AV:=match cV tm x,EO tm lo,EO tm hi,EO tm mx with
    |some a,some l,some h,some m=>Gp es a l h m
    |_,_,_,_=>none
def bx(tm:T AV)(off:Nat)(x:cg):Option AV:=match cV tm x with
    |some (.ptr a o)=>some (.ptr a (o+off))
    |_=>none
def bW(P:Program)(tm:T AV)(t:TypeId)(off:Nat)(x:cg):Option AV:=match cV tm x with
    |some (.agg l)=>iH P t l off
    |_=>none
def aV(tm:T AV)(es:Nat)(x:cg)(i:cg):Option AV:=match cV tm x,cV tm i with
    |some (.sl a o len nI _),some j=>cond (Nat.beq es nI) (match wX len j with|some m=>some (.ptr a (o+m*es))|none=>none) none
    |_,_=>none
def aW(tm:T AV)(len:Nat)(es:Nat)(x:cg)(i:cg):Option AV:=match cV tm x,cV tm i with
    |some (.ptr a o),some j=>match wX len j with|some m=>some (.ptr a (o+m*es))|none=>none
    |_,_=>none
def bz(P:Program)(tm:T AV)(len:Nat)(t:TypeId)(es:Nat)(x:cg)(i:cg):Option AV:=match cV tm x,cV tm i with
    |some (.agg l),some j=>match wX len j with|some m=>iH P t l (m*es)|none=>none
    |_,_=>none
def bA(tm:T AV)(x:cg)(i:Nat):Option AV:=match cV tm x with
    |some (.aE l)=>l[i]?
    |_=>none
def bp(tm:T AV)(x:cg):Option AV:=match cV tm x with
    |some (.sl _ _ len _ _)=>some (.int .i64 len)
    |some .ax=>some (.int .i64 0)
    |_=>none
def bI(tm:T AV)(x:cg):Option AV:=match cV tm x with
    |some (.str s)=>some (.int .i64 s.size)
    |_=>none
def bJ(tm:T AV)(x:cg):Option AV:=match cV tm x with
    |some .kH=>some (.int .i64 0)
    |_=>none
def cZ(tm:T AV)(isMax:Bool)(x:cg)(ys:List cg):Option AV:=match cV tm x,yA tm ys with
    |some a,some bs=>SU isMax a bs
    |_,_=>none
def bB(tm:T AV)(x:cg):Option AV:=match cV tm x with
    |some (.sl _ _ _ _ (some c))=>some (.int .i64 c)
    |some .ax=>some (.int .i64 0)
    |_=>none
def Bw(tm:T AV)(t:TypeId)(x:cg):Option AV:=match cV tm x with
    |some (.dR t' v)=>cond (Nat.beq t' t) (some v) none
    |_=>none
def mN(P:Program)(tm:T AV):PI->Option AV
 | .mv x=>cV tm x
 | .pick c a b=>bt tm c a b
 | .build zero ps=>(ky tm ps zero).map .agg
 | .rp x=>aU tm x
 | .bin op t cx cy x y=>bV P tm op t cx cy x y
 | .un op x=>cU tm op x
 | .conv k x=>bw tm k x
 | .Lh x=>bg tm x
 | .ML t x=>bG tm t x
 | .GQ f fs cs=>bH tm f fs cs
 | .MN es x lo hi mx=>ca tm es x lo hi mx
 | .uC off x=>bx tm off x
 | .Qf t off x=>bW P tm t off x
 | .mj es x i=>aV tm es x i
 | .tP len es x i=>aW tm len es x i
 | .Iv len t es x i=>bz P tm len t es x i
 | .GP x i=>bA tm x i
 | .As x=>bp tm x
 | .lens x=>bI tm x
 | .Hy x=>bJ tm x
 | .mm isMax x ys=>cZ tm isMax x ys
 | .Wv x=>bB tm x
 | .tas t x=>Bw tm t x
def XU(P:Program)(t:TypeId)(i:Nat):Option (Nat×Nat):=
 match P.underlying t with
 |some (.array _ e)=>match sz P e with
  |some n=>some (i*n,n)
  |none=>none
 |some (.struct fs)=>match fs.toList.mapM (fun f=>(P.info? f.type).map fun i=>(f.offset,i.size))with
  |some places=>places.toArray[i]?
  |none=>none
 |_=>none
def se(P:Program)(t:TypeId):Bool:=
 match P.underlying t with
 |some (.array _ e)=>(sz P e).isSome
 |some (.struct fs)=>(fs.toList.mapM (fun f=>(P.info? f.type).map fun i=>(f.offset,i.size))).isSome
 |_=>false
def pQ(pl:Nat->Option (Nat×Nat)):List (Nat×Operand)->Option (List (Nat×Nat×cg))
 | []=>some []
 |(i,x)::l=>match pl i,aP x with
  |some (off,n),some y=>match pQ pl l with
   |some m=>some ((off,n,y)::m)
   |none=>none
  |_,_=>none
def Hz:Operand->Bool
 | .const _=>true
 |_=>false
def cP0(P:Program)(o:Oper):Option PI:=match o.op with
 | .move x=>(aP x).map .mv
 | .assign x=>(aP x).map .mv
 | .pick c a b=>match aP c,aP a,aP b with
   |some c,some a,some b=>some (.pick c a b)
   |_,_,_=>none
 | .build t ps=>match se P t,dz P t,pQ (XU P t) ps.toList with
   |true,some z,some l=>some (.build z l)
   |_,_,_=>none
 | .nilCheck x=>(aP x).map .rp
 | .binOp op t x y _=>match aP x,aP y with
   |some a,some b=>some (.bin op t (Hz x) (Hz y) a b)
   |_,_=>none
 | .unOp op _ x=>(aP x).map (.un op)
 | .convert s d x=>match P.underlying s,P.underlying d,aP x with
   |some _,some (.int k),some y=>some (.conv k y)
   |some _,some .string,some y=>some (.Lh y)
   |_,_,_=>none
 | .makeInterface t x=>match P.underlying t,aP x with
   |some (.interface _),_=>none
   |some _,some y=>some (.ML t y)
   |_,_=>none
 | .makeFunc f fs cs=>match ki fs.toList,ki cs.toList with
   |some a,some b=>some (.GQ f a b)
   |_,_=>none
 | .slice t x lo hi mx=>match P.underlying t with
   |some (.slice e)=>match sz P e,aP x,sa lo,sa hi,sa mx with
    |some es,some y,some l,some h,some m=>some (.MN es y l h m)
    |_,_,_,_,_=>none
   |_=>none
 | .fieldAddr t x f=>match P.underlying t with
   |some (.struct fs)=>match fs[f]? with
    |some fd=>match sz P fd.type,aP x with
     |some (_+1),some y=>some (.uC fd.offset y)
     |_,_=>none
    |none=>none
   |_=>none
 | .field t x f=>match P.underlying t with
   |some (.struct fs)=>match fs[f]?,aP x with
    |some fd,some y=>some (.Qf fd.type fd.offset y)
    |_,_=>none
   |_=>none
 | .indexAddr t x i=>match P.underlying t with
   |some (.slice e)=>match sz P e,aP x,aP i with
    |some es,some y,some j=>some (.mj es y j)
    |_,_,_=>none
   |some (.array n e)=>match sz P e,aP x,aP i with
    |some es,some y,some j=>some (.tP n es y j)
    |_,_,_=>none
   |_=>none
 | .index t x i=>match P.underlying t with
   |some (.array n e)=>match sz P e,aP x,aP i with
    |some es,some y,some j=>some (.Iv n e es y j)
    |_,_,_=>none
   |_=>none
 | .extract x i=>(aP x).map fun y=>.GP y i
 | .call {callee:=.builtin .len,args,argTypes}=>match args.toList,argTypes[0]? with
   | [x],some t=>match P.underlying t,aP x with
     |some (.slice _),some y=>some (.As y)
     |some .string,some y=>some (.lens y)
     |some (.map _ _),some y=>some (.Hy y)
     |_,_=>none
   |_,_=>none
 | .call {callee:=.builtin .max,args,..}=>match args.toList with
   |x::ys=>match aP x,ki ys with
    |some a,some b=>some (.mm true a b)
    |_,_=>none
   |_=>none
 | .call {callee:=.builtin .min,args,..}=>match args.toList with
   |x::ys=>match aP x,ki ys with
    |some a,some b=>some (.mm false a b)
    |_,_=>none
   |_=>none
 | .call {callee:=.builtin .cap,args,argTypes}=>match args.toList,argTypes[0]? with
   | [x],some t=>match P.underlying t,aP x with
     |some (.slice _),some y=>some (.Wv y)
     |_,_=>none
   |_,_=>none
 | .typeAssert x _ t false=>match P.underlying t,aP x with
   |some (.interface _),_=>none
   |some _,some y=>some (.tas t y)
   |_,_=>none
 |_=>none
def cPo:Op->Program->Option PI:=fun op=>match op with
 | .move x=>fun P=>(aP x).map .mv
 | .assign x=>fun P=>(aP x).map .mv
 | .pick c a b=>fun P=>match aP c,aP a,aP b with
   |some c,some a,some b=>some (.pick c a b)
   |_,_,_=>none
 | .build t ps=>fun P=>match se P t,dz P t,pQ (XU P t) ps.toList with
   |true,some z,some l=>some (.build z l)
   |_,_,_=>none
 | .nilCheck x=>fun P=>(aP x).map .rp
 | .binOp op t x y _=>fun P=>match aP x,aP y with
   |some a,some b=>some (.bin op t (Hz x) (Hz y) a b)
   |_,_=>none
 | .unOp op _ x=>fun P=>(aP x).map (.un op)
 | .convert s d x=>fun P=>match P.underlying s,P.underlying d,aP x with
   |some _,some (.int k),some y=>some (.conv k y)
   |some _,some .string,some y=>some (.Lh y)
   |_,_,_=>none
 | .makeInterface t x=>fun P=>match P.underlying t,aP x with
   |some (.interface _),_=>none
   |some _,some y=>some (.ML t y)
   |_,_=>none
 | .makeFunc f fs cs=>fun P=>match ki fs.toList,ki cs.toList with
   |some a,some b=>some (.GQ f a b)
   |_,_=>none
 | .slice t x lo hi mx=>fun P=>match P.underlying t with
   |some (.slice e)=>match sz P e,aP x,sa lo,sa hi,sa mx with
    |some es,some y,some l,some h,some m=>some (.MN es y l h m)
    |_,_,_,_,_=>none
   |_=>none
 | .fieldAddr t x f=>fun P=>match P.underlying t with
   |some (.struct fs)=>match fs[f]? with
    |some fd=>match sz P fd.type,aP x with
     |some (_+1),some y=>some (.uC fd.offset y)
     |_,_=>none
    |none=>none
   |_=>none
 | .field t x f=>fun P=>match P.underlying t with
   |some (.struct fs)=>match fs[f]?,aP x with
    |some fd,some y=>some (.Qf fd.type fd.offset y)
    |_,_=>none
   |_=>none
 | .indexAddr t x i=>fun P=>match P.underlying t with
   |some (.slice e)=>match sz P e,aP x,aP i with
    |some es,some y,some j=>some (.mj es y j)
    |_,_,_=>none
   |some (.array n e)=>match sz P e,aP x,aP i with
    |some es,some y,some j=>some (.tP n es y j)
    |_,_,_=>none
   |_=>none
 | .index t x i=>fun P=>match P.underlying t with
   |some (.array n e)=>match sz P e,aP x,aP i with
    |some es,some y,some j=>some (.Iv n e es y j)
    |_,_,_=>none
   |_=>none
 | .extract x i=>fun P=>(aP x).map fun y=>.GP y i
 | .call {callee:=.builtin .len,args,argTypes}=>fun P=>match args.toList,argTypes[0]? with
   | [x],some t=>match P.underlying t,aP x with
     |some (.slice _),some y=>some (.As y)
     |some .string,some y=>some (.lens y)
     |some (.map _ _),some y=>some (.Hy y)
     |_,_=>none
   |_,_=>none
 | .call {callee:=.builtin .max,args,..}=>fun P=>match args.toList with
   |x::ys=>match aP x,ki ys with
    |some a,some b=>some (.mm true a b)
    |_,_=>none
   |_=>none
 | .call {callee:=.builtin .min,args,..}=>fun P=>match args.toList with
   |x::ys=>match aP x,ki ys with
    |some a,some b=>some (.mm false a b)
    |_,_=>none
   |_=>none
 | .call {callee:=.builtin .cap,args,argTypes}=>fun P=>match args.toList,argTypes[0]? with
   | [x],some t=>match P.underlying t,aP x with
     |some (.slice _),some y=>some (.Wv y)
     |_,_=>none
   |_,_=>none
 | .typeAssert x _ t false=>fun P=>match P.underlying t,aP x with
   |some (.interface _),_=>none
   |some _,some y=>some (.tas t y)
   |_,_=>none
 |_=>fun _=>none
def cP(P:Program)(o:Oper):Option PI:=cPo o.op P
theorem Ww(P:Program)(o:Oper):cP P o=cP0 P o:=by
 unfold cP cP0;generalize o.op=op;cases op with
 |call c=>
  obtain⟨callee,args,ats⟩:=c;cases callee with
  |builtin b=>cases b<;>rfl
  |_=>rfl
 |typeAssert x s t c=>cases c<;>rfl
 |_=>rfl
theorem Dj{ρ:aR}{v:AV}{V:Value}(h:VR ρ v V)(ho:aY v=true):one V=true:=by
 cases v with
 |agg l=>simp[aY]at ho
 |aE l=>simp[aY]at ho
 |sl a o len es cap=>
  cases cap with
  |some c=>simp only[VR]at h;obtain⟨l,_,_,rfl⟩:=h;rfl
  |none=>simp only[VR]at h;obtain⟨l,_,_,_,rfl|⟨_,x,rfl⟩⟩:=h<;>rfl
 |ptr a o=>simp only[VR]at h;obtain⟨l,_,rfl⟩:=h;rfl
 |map a=>simp only[VR]at h;obtain⟨l,_,rfl⟩:=h;rfl
 |Wq a=>simp only[VR]at h;obtain⟨l,_,rfl⟩:=h;rfl
 |fn f x y=>simp only[VR]at h;obtain⟨F,C,_,_,rfl⟩:=h;rfl
 |dR t u=>simp only[VR]at h;obtain⟨U,_,rfl⟩:=h;rfl
 |_=>simp only[VR]at h;subst h;rfl
theorem sf{ρ:aR}:∀{l:List AV} {L:List Value},bE ρ l L->l.all aY=true->∀V∈L,one V=true
 | [],L,h,_=>by simp only[bE]at h;subst h;simp
 |v::l,L,h,ha=>by
  simp only[bE]at h;obtain⟨V,M,h1,h2,rfl⟩:=h;simp only[List.all_cons,Bool.and_eq_true]at ha;intro U hU;rcases List.mem_cons.1 hU with rfl|hU
  ·exact Dj h1 ha.1
  ·exact sf h2 ha.2 U hU
theorem HA{V:Value}(h:one V=true):V.cells= #[V]:=by cases V<;>first|rfl|simp[one]at h
theorem lQ{ρ:aR}{v:AV}{V:Value}(h:VR ρ v V){l:List AV}(hl:ik v=some l):bE ρ l V.cells.toList/\∀U∈V.cells.toList,one U=true:=by
 cases v with
 |agg m=>
  simp only[VR]at h;obtain⟨L,h1,rfl⟩:=h;cases hm:m.all aY
  ·simp[ik,hm]at hl
  ·simp[ik,hm]at hl;subst hl;exact⟨by simpa [Value.cells]using h1,by simpa [Value.cells]using sf h1 hm⟩
 |aE m=>simp[ik]at hl
 |_=>
  simp only[ik,Option.some.injEq]at hl;subst hl;have ho:=Dj h rfl;rw[HA ho];exact⟨⟨V,[],h,rfl,rfl⟩,by simpa using ho⟩
theorem uc{ρ:aR}:∀{l:List AV} {L:List Value} (k:Nat) {zs:List AV} {Z:Array Value} (off:Nat),bE ρ l L->bE ρ zs Z.toList->
 bE ρ (sd (off+k) l zs) ((L.zipIdx k).foldl (fun cs (x:Value×Nat)=>cs.setIfInBounds (off+x.2) x.1) Z).toList/\((L.zipIdx k).foldl (fun cs (x:Value×Nat)=>cs.setIfInBounds (off+x.2) x.1) Z).size=Z.size
 | [],L,k,zs,Z,off,h,hz=>by simp only[bE]at h;subst h;exact⟨by simpa [sd]using hz,rfl⟩
 |v::l,L,k,zs,Z,off,h,hz=>by
  simp only[bE]at h;obtain⟨V,M,h1,h2,rfl⟩:=h;simp only[List.zipIdx_cons,List.foldl_cons,sd];have Il:bE ρ (zs.set (off+k) v) (Z.setIfInBounds (off+k) V).toList:=by
   simpa using hz.set (off+k) h1
  obtain⟨k1,k2⟩:=uc (k+1) off h2 Il;refine⟨?_,by simpa using k2⟩;rw[show off+k+1=off+(k+1) by omega];exact k1
theorem Li{P:Program}{t:TypeId}{parts:List (Nat×Value)}{i:TypeInfo}{z:Value}(hi:P.info? t=some i)(hz:i.zero=some z)(hk:se P t=true):
 P.built t parts=Instr.fill (XU P t) z.cells parts:=by
 unfold se at hk;unfold Program.built;split at hk
 ·rename_i n e hu;simp only[hi,hu];cases he:P.info? e with
  |none=>simp[sz,he]at hk
  |some ie=>
   simp only[hz];congr 1;funext j;simp[XU,hu,sz,he]
 ·rename_i fs hu;simp only[hi,hu];cases hm:fs.toList.mapM (fun f=>(P.info? f.type).map fun i=>(f.offset,i.size))with
  |none=>rw[hm]at hk;simp at hk
  |some places=>
   simp only[hz];congr 1;funext j;simp[XU,hu,hm]
 ·simp at hk
theorem pR{pl:Nat->Option (Nat×Nat)}{ρ:aR}{tm:T AV}{a:Act}(ht:TR ρ tm a.tmps):∀{ps:List (Nat×Operand)} {cs:List (Nat×Nat×cg)} {zs r:List AV} {Z:Array Value},pQ pl ps=some cs->ky tm cs zs=some r->bE ρ zs Z.toList->
 ∃R,Instr.fill pl Z (ps.map fun p=>(p.1,a.eval p.2))=some R/\bE ρ r R.toList
 | [],cs,zs,r,Z,hc,hl,hz=>by
   simp[pQ]at hc;subst hc;simp[ky]at hl;subst hl;exact⟨Z,by simp[Instr.fill],hz⟩
 |(i,x)::ps,cs,zs,r,Z,hc,hl,hz=>by
  unfold pQ at hc;split at hc
  ·rename_i off n y hp hy;split at hc
   ·rename_i m hm;simp at hc;subst hc;unfold ky at hl;split at hl
    ·rename_i v hv;split at hl
     ·rename_i l iT;cases hb:(Nat.beq l.length n&&Nat.ble (off+l.length) zs.length)
      ·rw[hb]at hl;simp at hl
      ·rw[hb,cond_true]at hl;simp only[Bool.and_eq_true]at hb;have hn:=Nat.eq_of_beq_eq_true hb.1;have hle:=Nat.le_of_ble_eq_true hb.2;have hV:=ai ht hy hv;obtain⟨k1,k2⟩:=lQ hV iT;have hlen:=k1.length;have Co:=hz.length;simp only[Array.length_toList]at hlen Co;obtain⟨j1,j2⟩:=uc (ρ:=ρ) 0 off k1 hz;rw[Nat.add_zero]at j1;obtain⟨R,e1,e2⟩:=pR ht hm hl j1;refine⟨R,?_,e2⟩;simp only[List.map_cons,Instr.fill,hp];rw[if_neg (by simp;omega)];rw[←e1];congr 1;rw[←Array.foldl_toList,Array.toList_zipIdx]
     ·simp at hl
    ·simp at hl
   ·simp at hc
  ·simp at hc
def nq(d:TypeDesc)(X Y:Value):Option Bool:=match d,X,Y with
 | .pointer _,.pointer none,.pointer b=>some b.isNone
 | .pointer _,.pointer (some _),.pointer none=>some false
 | .slice _,.slice none _ _,.slice b _ _=>some b.isNone
 | .slice _,.slice (some _) _ _,.slice none _ _=>some false
 | .map _ _,.map none,.map b=>some b.isNone
 | .map _ _,.map (some _),.map none=>some false
 | .func _ _ _,.nilFunc,.nilFunc=>some true
 | .func _ _ _,.nilFunc,.func _ _ _=>some false
 | .func _ _ _,.func _ _ _,.nilFunc=>some false
 | .interface _,.nilIface,.nilIface=>some true
 | .interface _,.nilIface,.iface _ _=>some false
 | .interface _,.iface _ _,.nilIface=>some false
 |_,_,_=>none
theorem Lj{P:Program}{t:TypeId}{d:TypeDesc}(hu:P.underlying t=some d){X Y:Value}{b:Bool}(h:nq d X Y=some b)(w:World):(Op.equal t X Y).run P w=.ok b w:=by
 have ten:Op.maxDepth=9999+1:=rfl;unfold nq at h;split at h<;>first
  |(simp at h;done)
  |(simp at h;subst h;unfold Op.equal;rw[ten,Op.equalIn];simp[Go.Proofs.YtgkjlklfjbljeaaGreat.Eo.run_underlying hu])
theorem Wx{P:Program}{t:TypeId}{d:TypeDesc}(hu:P.underlying t=some d){X Y:Value}{b:Bool}(h:nq d X Y=some b)(w:World):
 (binOp .eql t X Y).run P w=.ok (.bool b) w/\(binOp .neq t X Y).run P w=.ok (.bool (!b)) w:=by
 have he:=Lj hu h w;unfold nq at h;split at h<;>first
  |(simp at h;done)
  |(refine⟨?_,?_⟩<;>simp[binOp,he])
theorem Lk{P:Program}{t:TypeId}{d:TypeDesc}{X Y:Value}{b:Bool}(h:nq d X Y=some b)(ox oy:Operand)(hc:X=.nilIface->Y=.nilIface->(Hz ox||Hz oy)=true)(op:BinOp)(w:World):
 (eqGuard op t ox oy X Y).run P w=.ok () w:=by
 unfold nq at h;split at h<;>first
  |(simp at h;done)
  |(cases op<;>simp[eqGuard];done)
  |(have:=hc rfl rfl
    cases op<;>simp[eqGuard]
    all_goals (cases ox<;>cases oy<;>simp[Hz]at this⊢))
theorem Ll{P:Program}{t:TypeId}{x y:AV}{cx cy b:Bool}(h:bT.mO P t cx cy x y=some b){ρ:aR}{X Y:Value}(hx:VR ρ x X)(hy:VR ρ y Y):
 ∃d,P.underlying t=some d/\nq d X Y=some b/\(X=.nilIface->Y=.nilIface->(cx||cy)=true):=by
 have slv:∀{a o len es:Nat} {cap:Option Nat} {V:Value},VR ρ (.sl a o len es cap) V->∃p n c,V=.slice (some p) n c:=by
  intro a o len es cap V hv;cases cap with
  |some c=>simp only[VR]at hv;obtain⟨l,_,_,rfl⟩:=hv;exact⟨_,_,_,rfl⟩
  |none=>simp only[VR]at hv;obtain⟨l,_,_,_,rfl|⟨_,x,rfl⟩⟩:=hv<;>exact⟨_,_,_,rfl⟩
 unfold bT.mO at h;split at h
 ·rename_i e hu;refine⟨_,hu,?_⟩;split at h<;>first
   |(simp at h;done)
   |(simp only[VR]at hx hy;simp at h;subst h
     first
      |(subst hx;subst hy;exact⟨rfl,by simp⟩)
      |(subst hx;obtain⟨m,_,rfl⟩:=hy;exact⟨rfl,by simp⟩)
      |(subst hy;obtain⟨m,_,rfl⟩:=hx;exact⟨rfl,by simp⟩))
 ·rename_i e hu;refine⟨_,hu,?_⟩;split at h
  ·simp only[VR]at hx hy;simp at h;subst h hx hy;exact⟨rfl,by simp⟩
  ·simp only[VR]at hx;simp at h;subst h hx;obtain⟨p,n,c,rfl⟩:=slv hy;exact⟨rfl,by simp⟩
  ·simp only[VR]at hy;simp at h;subst h hy;obtain⟨p,n,c,rfl⟩:=slv hx;exact⟨rfl,by simp⟩
  ·simp at h
 ·rename_i e hu;refine⟨_,hu,?_⟩;split at h<;>first
   |(simp at h;done)
   |(simp only[VR]at hx hy;simp at h;subst h
     first
      |(subst hx;subst hy;exact⟨rfl,by simp⟩)
      |(subst hx;obtain⟨m,_,rfl⟩:=hy;exact⟨rfl,by simp⟩)
      |(subst hy;obtain⟨m,_,rfl⟩:=hx;exact⟨rfl,by simp⟩))
 ·rename_i e hu;refine⟨_,hu,?_⟩;split at h<;>first
   |(simp at h;done)
   |(simp only[VR]at hx hy;simp at h;subst h
     first
      |(subst hx;subst hy;exact⟨rfl,by simp⟩)
      |(subst hx;obtain⟨F,C,_,_,rfl⟩:=hy;exact⟨rfl,by simp⟩)
      |(subst hy;obtain⟨F,C,_,_,rfl⟩:=hx;exact⟨rfl,by simp⟩))
 ·rename_i e hu;refine⟨_,hu,?_⟩;split at h
  ·simp only[VR]at hx hy;subst hx hy;cases hc:(cx||cy)
   ·rw[hc]at h;simp at h
   ·rw[hc]at h;simp at h;subst h;exact⟨rfl,fun _ _=>rfl⟩
  ·simp only[VR]at hx hy;simp at h;subst h hx;obtain⟨U,_,rfl⟩:=hy;exact⟨rfl,by simp⟩
  ·simp only[VR]at hx hy;simp at h;subst h hy;obtain⟨U,_,rfl⟩:=hx;exact⟨rfl,by simp⟩
  ·simp at h
 ·simp at h
theorem Dk{P:Program}{op:BinOp}{t:TypeId}{ox oy:Operand}{x y v:AV}(h:bT P op t (Hz ox) (Hz oy) x y=some v){ρ:aR}{X Y:Value}(hx:VR ρ x X)(hy:VR ρ y Y):
 ∃V,VR ρ v V/\∀w,(do eqGuard op t ox oy X Y;binOp op t X Y:Sem Value).run P w=.ok V w:=by
 unfold bT at h;split at h
 ·rename_i k a k' b;simp only[VR]at hx hy;subst hx hy;have hg:∀w,(eqGuard op t ox oy (.int k a) (.int k' b)).run P w=.ok () w:=fun w=>by cases op<;>simp[eqGuard]
  split at h
  ·rw[iN]at h
   by_cases hb:b<0
   ·simp[hb]at h
   ·simp only[hb,decide_false,cond_false,Option.some.injEq]at h;subst h;refine⟨_,rfl,fun w=>?_⟩;simp only[Sem.run_bind,hg,Result.andThen_ok,binOp,Op.shift,if_neg hb,tW];rfl
  ·rw[iN]at h
   by_cases hb:b<0
   ·simp[hb]at h
   ·simp only[hb,decide_false,cond_false,Option.some.injEq]at h;subst h;refine⟨_,rfl,fun w=>?_⟩;simp only[Sem.run_bind,hg,Result.andThen_ok,binOp,Op.shift,if_neg hb];rfl
  ·by_cases hk:k=k'
   ·subst hk;simp at h;obtain⟨V,h1,_,h2⟩:=Dh (P:=P) h (ρ:=ρ);exact⟨V,h1,fun w=>by simp[hg,h2]⟩
   ·simp[hk]at h
 ·rename_i a b;simp only[VR]at hx hy;subst hx hy;have hg:∀w,(eqGuard op t ox oy (.string a) (.string b)).run P w=.ok () w:=fun w=>by cases op<;>simp[eqGuard]
  split at h<;>first
   |(simp at h;done)
   |(simp only[Option.some.injEq]at h;subst h;refine⟨_,rfl,fun w=>?_⟩;simp[eqGuard,binOp,Op.stringOp,lK];done)
   |skip
  split at h
  ·rename_i hle;have hle:=Nat.le_of_ble_eq_true hle;simp only[Option.some.injEq]at h;subst h;refine⟨.string (a++b),?_,fun w=>?_⟩
   ·simp only[VR];congr 1
   ·have e63:IntKind.i64.max=9223372036854775807:=by decide+kernel
    have hs:∀s:ByteArray,s.size=s.data.toList.length:=fun s=>by obtain⟨⟨l⟩⟩:=s;rfl
    have hn:¬((a.size+b.size:Nat):Int)>IntKind.i64.max:=by rw[e63,hs,hs];omega
    simp only[Sem.run_bind,hg,Result.andThen_ok,binOp,Op.stringOp,if_neg hn,Sem.run_pure]
  ·simp at h
 ·rename_i a b;simp only[VR]at hx hy;subst hx hy;split at h
  ·rename_i hu;have hg:∀w,(eqGuard op t ox oy (.bool a) (.bool b)).run P w=.ok () w:=fun w=>by cases op<;>simp[eqGuard]
   have he:∀w,(Op.equal t (.bool a) (.bool b)).run P w=.ok (a==b) w:=fun w=>by
        have ten:Op.maxDepth=9999+1:=rfl;unfold Op.equal;rw[ten,Op.equalIn];simp[Go.Proofs.YtgkjlklfjbljeaaGreat.Eo.run_underlying hu]
   split at h<;>first
        |(simp at h;done)
        |(simp only[Option.some.injEq]at h;subst h;refine⟨_,rfl,fun w=>?_⟩;simp[eqGuard,binOp,he])
  ·simp at h
 ·rename_i xs ys;cases hq:P.eqGuardType P.depth t
  ·rw[hq,cond_false]at h;split at h
   ·rename_i b hb;have vg:=hx;have sV:=hy;simp only[VR]at vg sV;obtain⟨XS,_,rfl⟩:=vg;obtain⟨YS,_,rfl⟩:=sV;have he:∀w,(Op.equal t (.agg XS.toArray) (.agg YS.toArray)).run P w=.ok b w:=fun w=>tu 10000 t _ _ b hb ρ _ _ hx hy w
    have hg:∀w,(eqGuard op t ox oy (.agg XS.toArray) (.agg YS.toArray)).run P w=.ok () w:=fun w=>run_eqGuard_agg w op t ox oy _ _ hq
    split at h<;>first
      |(simp at h;done)
      |(simp only[Option.some.injEq]at h;subst h;refine⟨_,rfl,fun w=>?_⟩;rw[Sem.run_bind,hg,Result.andThen_ok];simp[binOp,he])
   ·simp at h
  ·rw[hq]at h;simp at h
 ·split at h
  ·rename_i b hb;obtain⟨d,hu,hn,hc⟩:=Ll hb hx hy;have hg:=fun w=>Lk (P:=P) (t:=t) hn ox oy hc op w
   have XV:=fun w=>Wx hu hn w
   split at h<;>first
        |(simp at h;done)
        |(simp only[Option.some.injEq]at h;subst h;refine⟨_,rfl,fun w=>?_⟩;simp[hg,(XV w).1,(XV w).2])
  ·simp at h
end
end Go.Proofs.YtgkjlklfjbljeaaGreat.Eo
