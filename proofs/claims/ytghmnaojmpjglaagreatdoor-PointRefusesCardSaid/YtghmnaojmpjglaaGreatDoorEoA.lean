/-
  An evaluator of Go code over relative heaps, with open values too: what it says is so in every world. No condition.
-/
import Derived.Calls
import Derived.Orders
import Derived.LoopN
import Derived.Below
import Derived.Laws.Cells
import Derived.Laws.CopyRow
import Derived.Laws.World
import Derived.Laws.Sem
import Derived.Laws.StructEq
import Derived.IntWalk
import Derived.ChangeKeysEq
import Derived.Laws.Tables
set_option linter.all false
namespace Go.Proofs.YtghmnaojmpjglaaGreatDoor.Eo
inductive OT(α:Type) where
 |e
 |n (l:OT α) (v:Option α) (r:OT α)
noncomputable def OT.get{α:Type}(t:OT α):Nat->Option α:=
 OT.rec (motive:=fun _=>Nat->Option α) (fun _=>none)
  (fun _ v _ gl gr i=>Bool.rec (Bool.rec (gr (Nat.shiftRight (Nat.pred i) 1)) (gl (Nat.shiftRight i 1)) (Nat.beq (Nat.land i 1) 1)) v (Nat.beq i 0)) t
noncomputable def OT.single{α:Type}(f:Nat):Nat->α->OT α:=
 Nat.rec (motive:=fun _=>Nat->α->OT α) (fun _ _=>.e)
  (fun _ ih i x=>Bool.rec (Bool.rec (.n .e none (ih (Nat.shiftRight (Nat.pred i) 1) x)) (.n (ih (Nat.shiftRight i 1) x) none .e) (Nat.beq (Nat.land i 1) 1)) (.n .e (some x) .e) (Nat.beq i 0)) f
noncomputable def OT.set{α:Type}(t:OT α):Nat->α->OT α:=
 OT.rec (motive:=fun _=>Nat->α->OT α) (fun i x=>OT.single (Nat.succ i) i x)
  (fun l v r sl sr i x=>Bool.rec (Bool.rec (.n l v (sr (Nat.shiftRight (Nat.pred i) 1) x)) (.n (sl (Nat.shiftRight i 1) x) v r) (Nat.beq (Nat.land i 1) 1)) (.n l (some x) r) (Nat.beq i 0)) t
theorem OT.get_e{α:Type}(i:Nat):(OT.e:OT α).get i=none:=rfl
theorem odd_iff(i:Nat):Nat.beq (Nat.land i 1) 1=decide (i %2=1):=by
 have h:Nat.land i 1=i %2:=Nat.and_one_is_mod i
 rw[h]
 by_cases hi:i %2=1
 ·simp[hi]
 ·have h2:i %2=0:=by omega
  rw[h2];rfl
theorem shr1(i:Nat):Nat.shiftRight i 1=i/2:=by
 show i>>>1=i/2
 rw[Nat.shiftRight_succ,Nat.shiftRight_zero]
theorem OT.get_n{α:Type}(l r:OT α)(v:Option α)(i:Nat):
 (OT.n l v r).get i=if i=0 then v else if i %2=1 then l.get (i/2)else r.get ((i-1)/2):=by
 show(Bool.rec (Bool.rec (r.get (Nat.shiftRight (Nat.pred i) 1)) (l.get (Nat.shiftRight i 1)) (Nat.beq (Nat.land i 1) 1)) v (Nat.beq i 0):Option α)=_
 rw[odd_iff,shr1,shr1,Nat.pred_eq_sub_one]
 by_cases h0:i=0
 ·subst h0;rfl
 ·have:Nat.beq i 0=false:=by
   cases i with
   |zero=>exact absurd rfl h0
   |succ n=>rfl
  rw[this,if_neg h0]
  by_cases h1:i %2=1<;>simp[h1]
theorem OT.single_succ{α:Type}(f i:Nat)(x:α):
 OT.single (f+1) i x=if i=0 then .n .e (some x) .e else if i %2=1 then .n (OT.single f (i/2) x) none .e else .n .e none (OT.single f ((i-1)/2) x):=by
 show(Bool.rec (Bool.rec (.n .e none (OT.single f (Nat.shiftRight (Nat.pred i) 1) x)) (.n (OT.single f (Nat.shiftRight i 1) x) none .e) (Nat.beq (Nat.land i 1) 1)) (.n .e (some x) .e) (Nat.beq i 0):OT α)=_
 rw[odd_iff,shr1,shr1,Nat.pred_eq_sub_one]
 by_cases h0:i=0
 ·subst h0;rfl
 ·have:Nat.beq i 0=false:=by
   cases i with
   |zero=>exact absurd rfl h0
   |succ n=>rfl
  rw[this,if_neg h0]
  by_cases h1:i %2=1<;>simp[h1]
theorem OT.set_n{α:Type}(l r:OT α)(v:Option α)(i:Nat)(x:α):
 (OT.n l v r).set i x=if i=0 then .n l (some x) r else if i %2=1 then .n (l.set (i/2) x) v r else .n l v (r.set ((i-1)/2) x):=by
 show(Bool.rec (Bool.rec (.n l v (r.set (Nat.shiftRight (Nat.pred i) 1) x)) (.n (l.set (Nat.shiftRight i 1) x) v r) (Nat.beq (Nat.land i 1) 1)) (.n l (some x) r) (Nat.beq i 0):OT α)=_
 rw[odd_iff,shr1,shr1,Nat.pred_eq_sub_one]
 by_cases h0:i=0
 ·subst h0;rfl
 ·have:Nat.beq i 0=false:=by
   cases i with
   |zero=>exact absurd rfl h0
   |succ n=>rfl
  rw[this,if_neg h0]
  by_cases h1:i %2=1<;>simp[h1]
theorem OT.get_single{α:Type}(x:α):∀(f i j:Nat),i<f->(OT.single f i x).get j=if j=i then some x else none:=by
 intro f
 induction f with
 |zero=>intro i j h;omega
 |succ f ih=>
  intro i j h
  rw[OT.single_succ]
  by_cases h0:i=0
  ·subst h0
   simp only[if_true,OT.get_n,OT.get_e]
   by_cases hj:j=0<;>simp[hj]
  ·rw[if_neg h0]
   by_cases h1:i %2=1
   ·rw[if_pos h1,OT.get_n]
    by_cases hj:j=0
    ·subst hj
     simp;omega
    ·rw[if_neg hj]
     by_cases hj1:j %2=1
     ·rw[if_pos hj1,ih _ _ (by omega)]
      by_cases e:j=i
      ·subst e;simp
      ·rw[if_neg e,if_neg (by omega)]
     ·rw[if_neg hj1,OT.get_e,if_neg (by omega)]
   ·rw[if_neg h1,OT.get_n]
    by_cases hj:j=0
    ·subst hj
     simp;omega
    ·rw[if_neg hj]
     by_cases hj1:j %2=1
     ·rw[if_pos hj1,OT.get_e,if_neg (by omega)]
     ·rw[if_neg hj1,ih _ _ (by omega)]
      by_cases e:j=i
      ·subst e;simp
      ·rw[if_neg e,if_neg (by omega)]
theorem OT.get_set{α:Type}(x:α)(t:OT α):∀(i j:Nat),(t.set i x).get j=if j=i then some x else t.get j:=by
 induction t with
 |e=>
  intro i j
  show(OT.single (Nat.succ i) i x).get j=_
  rw[OT.get_single x _ _ _ (Nat.lt_succ_self i),OT.get_e]
 |n l v r ihl ihr=>
  intro i j
  rw[OT.set_n]
  by_cases h0:i=0
  ·subst h0
   simp only[if_true,OT.get_n]
   by_cases hj:j=0<;>simp[hj]
  ·rw[if_neg h0]
   by_cases h1:i %2=1
   ·rw[if_pos h1,OT.get_n,OT.get_n]
    by_cases hj:j=0
    ·subst hj
     simp;omega
    ·rw[if_neg hj,if_neg hj]
     by_cases hj1:j %2=1
     ·rw[if_pos hj1,if_pos hj1,ihl]
      by_cases e:j=i
      ·subst e;simp
      ·rw[if_neg e,if_neg (by omega)]
     ·rw[if_neg hj1,if_neg hj1]
      have e:¬j=i:=by omega
      rw[if_neg e]
   ·rw[if_neg h1,OT.get_n,OT.get_n]
    by_cases hj:j=0
    ·subst hj
     simp;omega
    ·rw[if_neg hj,if_neg hj]
     by_cases hj1:j %2=1
     ·rw[if_pos hj1,if_pos hj1]
      have e:¬j=i:=by omega
      rw[if_neg e]
     ·rw[if_neg hj1,if_neg hj1,ihr]
      by_cases e:j=i
      ·subst e;simp
      ·rw[if_neg e,if_neg (by omega)]
structure Nd(α:Type) where
 a:α
 b:α
 c:α
 d:α
 e:α
 f:α
 g:α
 h:α
def Tr(α:Type):Nat->Type
 |0=>Option α
 |n+1=>Nd (Tr α n)
structure GB(α:Type)(d:Nat) where
 g:Tr α d->Option α
structure SB(α:Type)(d:Nat) where
 s:Option α->Tr α d->Tr α d
noncomputable def emB(α:Type)(d:Nat):Tr α d:=Nat.rec (motive:=fun d=>Tr α d) (none:Option α) (fun _ ih=>(⟨ih,ih,ih,ih,ih,ih,ih,ih⟩:Nd _)) d
noncomputable def gtTr(α:Type)(d:Nat):Nat->GB α d:=
 Nat.rec (motive:=fun d=>Nat->GB α d) (fun _=>⟨fun t=>t⟩)
  (fun d ih i=>Bool.rec (Bool.rec (Bool.rec (Bool.rec (Bool.rec (Bool.rec (Bool.rec (⟨fun t=>(ih (Nat.shiftRight i 3)).g (Nd.h t)⟩) (⟨fun t=>(ih (Nat.shiftRight i 3)).g (Nd.g t)⟩) (Nat.beq (Nat.land i 7) 6)) (⟨fun t=>(ih (Nat.shiftRight i 3)).g (Nd.f t)⟩) (Nat.beq (Nat.land i 7) 5)) (⟨fun t=>(ih (Nat.shiftRight i 3)).g (Nd.e t)⟩) (Nat.beq (Nat.land i 7) 4)) (⟨fun t=>(ih (Nat.shiftRight i 3)).g (Nd.d t)⟩) (Nat.beq (Nat.land i 7) 3)) (⟨fun t=>(ih (Nat.shiftRight i 3)).g (Nd.c t)⟩) (Nat.beq (Nat.land i 7) 2)) (⟨fun t=>(ih (Nat.shiftRight i 3)).g (Nd.b t)⟩) (Nat.beq (Nat.land i 7) 1)) (⟨fun t=>(ih (Nat.shiftRight i 3)).g (Nd.a t)⟩) (Nat.beq (Nat.land i 7) 0)) d
noncomputable def stTr(α:Type)(d:Nat):Nat->SB α d:=
 Nat.rec (motive:=fun d=>Nat->SB α d) (fun _=>⟨fun x _=>x⟩)
  (fun d ih i=>Bool.rec (Bool.rec (Bool.rec (Bool.rec (Bool.rec (Bool.rec (Bool.rec (⟨fun x t=>(⟨Nd.a t,Nd.b t,Nd.c t,Nd.d t,Nd.e t,Nd.f t,Nd.g t,(ih (Nat.shiftRight i 3)).s x (Nd.h t)⟩:Nd _)⟩) (⟨fun x t=>(⟨Nd.a t,Nd.b t,Nd.c t,Nd.d t,Nd.e t,Nd.f t,(ih (Nat.shiftRight i 3)).s x (Nd.g t),Nd.h t⟩:Nd _)⟩) (Nat.beq (Nat.land i 7) 6)) (⟨fun x t=>(⟨Nd.a t,Nd.b t,Nd.c t,Nd.d t,Nd.e t,(ih (Nat.shiftRight i 3)).s x (Nd.f t),Nd.g t,Nd.h t⟩:Nd _)⟩) (Nat.beq (Nat.land i 7) 5)) (⟨fun x t=>(⟨Nd.a t,Nd.b t,Nd.c t,Nd.d t,(ih (Nat.shiftRight i 3)).s x (Nd.e t),Nd.f t,Nd.g t,Nd.h t⟩:Nd _)⟩) (Nat.beq (Nat.land i 7) 4)) (⟨fun x t=>(⟨Nd.a t,Nd.b t,Nd.c t,(ih (Nat.shiftRight i 3)).s x (Nd.d t),Nd.e t,Nd.f t,Nd.g t,Nd.h t⟩:Nd _)⟩) (Nat.beq (Nat.land i 7) 3)) (⟨fun x t=>(⟨Nd.a t,Nd.b t,(ih (Nat.shiftRight i 3)).s x (Nd.c t),Nd.d t,Nd.e t,Nd.f t,Nd.g t,Nd.h t⟩:Nd _)⟩) (Nat.beq (Nat.land i 7) 2)) (⟨fun x t=>(⟨Nd.a t,(ih (Nat.shiftRight i 3)).s x (Nd.b t),Nd.c t,Nd.d t,Nd.e t,Nd.f t,Nd.g t,Nd.h t⟩:Nd _)⟩) (Nat.beq (Nat.land i 7) 1)) (⟨fun x t=>(⟨(ih (Nat.shiftRight i 3)).s x (Nd.a t),Nd.b t,Nd.c t,Nd.d t,Nd.e t,Nd.f t,Nd.g t,Nd.h t⟩:Nd _)⟩) (Nat.beq (Nat.land i 7) 0)) d
def mkN{α:Type}{d:Nat}(a b c d' e f g h:Tr α d):Tr α (d+1):=(⟨a,b,c,d',e,f,g,h⟩:Nd (Tr α d))
def nda{α:Type}{d:Nat}(t:Tr α (d+1)):Tr α d:=Nd.a t
def ndb{α:Type}{d:Nat}(t:Tr α (d+1)):Tr α d:=Nd.b t
def ndc{α:Type}{d:Nat}(t:Tr α (d+1)):Tr α d:=Nd.c t
def ndd{α:Type}{d:Nat}(t:Tr α (d+1)):Tr α d:=Nd.d t
def nde{α:Type}{d:Nat}(t:Tr α (d+1)):Tr α d:=Nd.e t
def ndf{α:Type}{d:Nat}(t:Tr α (d+1)):Tr α d:=Nd.f t
def ndg{α:Type}{d:Nat}(t:Tr α (d+1)):Tr α d:=Nd.g t
def ndh{α:Type}{d:Nat}(t:Tr α (d+1)):Tr α d:=Nd.h t
theorem land7(i k:Nat):Nat.beq (Nat.land i 7) k=decide (i %8=k):=by
 have h:Nat.land i 7=i %8:=by
  show i&&&7=i %8
  exact Nat.and_two_pow_sub_one_eq_mod i 3
 rw[h]
 by_cases e:i %8=k
 ·simp[e]
 ·simp only[e,decide_false]
  cases hb:Nat.beq (i %8) k with
  |true=>exact absurd (Nat.eq_of_beq_eq_true hb) e
  |false=>rfl
theorem shr3(i:Nat):Nat.shiftRight i 3=i/8:=by
 show i>>>3=i/8
 rw[Nat.shiftRight_eq_div_pow]
theorem mod8(i:Nat):i %8=0∨i %8=1∨i %8=2∨i %8=3∨i %8=4∨i %8=5∨i %8=6∨i %8=7:=by omega
theorem gtTr_succ(α:Type)(d i:Nat)(t:Tr α (d+1)):(gtTr α (d+1) i).g t=if i %8=0 then(gtTr α d (i/8)).g (nda t)else if i %8=1 then(gtTr α d (i/8)).g (ndb t)else if i %8=2 then(gtTr α d (i/8)).g (ndc t)else if i %8=3 then(gtTr α d (i/8)).g (ndd t)else if i %8=4 then(gtTr α d (i/8)).g (nde t)else if i %8=5 then(gtTr α d (i/8)).g (ndf t)else if i %8=6 then(gtTr α d (i/8)).g (ndg t)else(gtTr α d (i/8)).g (ndh t):=by
 show(Bool.rec (motive:=fun _=>GB α (d+1)) (Bool.rec (motive:=fun _=>GB α (d+1)) (Bool.rec (motive:=fun _=>GB α (d+1)) (Bool.rec (motive:=fun _=>GB α (d+1)) (Bool.rec (motive:=fun _=>GB α (d+1)) (Bool.rec (motive:=fun _=>GB α (d+1)) (Bool.rec (motive:=fun _=>GB α (d+1)) (⟨fun t=>(gtTr α d (Nat.shiftRight i 3)).g (ndh t)⟩) (⟨fun t=>(gtTr α d (Nat.shiftRight i 3)).g (ndg t)⟩) (Nat.beq (Nat.land i 7) 6)) (⟨fun t=>(gtTr α d (Nat.shiftRight i 3)).g (ndf t)⟩) (Nat.beq (Nat.land i 7) 5)) (⟨fun t=>(gtTr α d (Nat.shiftRight i 3)).g (nde t)⟩) (Nat.beq (Nat.land i 7) 4)) (⟨fun t=>(gtTr α d (Nat.shiftRight i 3)).g (ndd t)⟩) (Nat.beq (Nat.land i 7) 3)) (⟨fun t=>(gtTr α d (Nat.shiftRight i 3)).g (ndc t)⟩) (Nat.beq (Nat.land i 7) 2)) (⟨fun t=>(gtTr α d (Nat.shiftRight i 3)).g (ndb t)⟩) (Nat.beq (Nat.land i 7) 1)) (⟨fun t=>(gtTr α d (Nat.shiftRight i 3)).g (nda t)⟩) (Nat.beq (Nat.land i 7) 0):GB α (d+1)).g t=_
 simp only[land7,shr3]
 rcases mod8 i with h|h|h|h|h|h|h|h<;>simp[h]
theorem stTr_succ(α:Type)(d i:Nat)(x:Option α)(t:Tr α (d+1)):(stTr α (d+1) i).s x t=if i %8=0 then mkN ((stTr α d (i/8)).s x (nda t)) (ndb t) (ndc t) (ndd t) (nde t) (ndf t) (ndg t) (ndh t)else if i %8=1 then mkN (nda t) ((stTr α d (i/8)).s x (ndb t)) (ndc t) (ndd t) (nde t) (ndf t) (ndg t) (ndh t)else if i %8=2 then mkN (nda t) (ndb t) ((stTr α d (i/8)).s x (ndc t)) (ndd t) (nde t) (ndf t) (ndg t) (ndh t)else if i %8=3 then mkN (nda t) (ndb t) (ndc t) ((stTr α d (i/8)).s x (ndd t)) (nde t) (ndf t) (ndg t) (ndh t)else if i %8=4 then mkN (nda t) (ndb t) (ndc t) (ndd t) ((stTr α d (i/8)).s x (nde t)) (ndf t) (ndg t) (ndh t)else if i %8=5 then mkN (nda t) (ndb t) (ndc t) (ndd t) (nde t) ((stTr α d (i/8)).s x (ndf t)) (ndg t) (ndh t)else if i %8=6 then mkN (nda t) (ndb t) (ndc t) (ndd t) (nde t) (ndf t) ((stTr α d (i/8)).s x (ndg t)) (ndh t)else mkN (nda t) (ndb t) (ndc t) (ndd t) (nde t) (ndf t) (ndg t) ((stTr α d (i/8)).s x (ndh t)):=by
 show(Bool.rec (motive:=fun _=>SB α (d+1)) (Bool.rec (motive:=fun _=>SB α (d+1)) (Bool.rec (motive:=fun _=>SB α (d+1)) (Bool.rec (motive:=fun _=>SB α (d+1)) (Bool.rec (motive:=fun _=>SB α (d+1)) (Bool.rec (motive:=fun _=>SB α (d+1)) (Bool.rec (motive:=fun _=>SB α (d+1)) (⟨fun x t=>mkN (nda t) (ndb t) (ndc t) (ndd t) (nde t) (ndf t) (ndg t) ((stTr α d (Nat.shiftRight i 3)).s x (ndh t))⟩) (⟨fun x t=>mkN (nda t) (ndb t) (ndc t) (ndd t) (nde t) (ndf t) ((stTr α d (Nat.shiftRight i 3)).s x (ndg t)) (ndh t)⟩) (Nat.beq (Nat.land i 7) 6)) (⟨fun x t=>mkN (nda t) (ndb t) (ndc t) (ndd t) (nde t) ((stTr α d (Nat.shiftRight i 3)).s x (ndf t)) (ndg t) (ndh t)⟩) (Nat.beq (Nat.land i 7) 5)) (⟨fun x t=>mkN (nda t) (ndb t) (ndc t) (ndd t) ((stTr α d (Nat.shiftRight i 3)).s x (nde t)) (ndf t) (ndg t) (ndh t)⟩) (Nat.beq (Nat.land i 7) 4)) (⟨fun x t=>mkN (nda t) (ndb t) (ndc t) ((stTr α d (Nat.shiftRight i 3)).s x (ndd t)) (nde t) (ndf t) (ndg t) (ndh t)⟩) (Nat.beq (Nat.land i 7) 3)) (⟨fun x t=>mkN (nda t) (ndb t) ((stTr α d (Nat.shiftRight i 3)).s x (ndc t)) (ndd t) (nde t) (ndf t) (ndg t) (ndh t)⟩) (Nat.beq (Nat.land i 7) 2)) (⟨fun x t=>mkN (nda t) ((stTr α d (Nat.shiftRight i 3)).s x (ndb t)) (ndc t) (ndd t) (nde t) (ndf t) (ndg t) (ndh t)⟩) (Nat.beq (Nat.land i 7) 1)) (⟨fun x t=>mkN ((stTr α d (Nat.shiftRight i 3)).s x (nda t)) (ndb t) (ndc t) (ndd t) (nde t) (ndf t) (ndg t) (ndh t)⟩) (Nat.beq (Nat.land i 7) 0):SB α (d+1)).s x t=_
 simp only[land7,shr3]
 rcases mod8 i with h|h|h|h|h|h|h|h<;>simp[h]
theorem gtTr_em(α:Type):∀(d i:Nat),(gtTr α d i).g (emB α d)=none
 |0,_=>rfl
 |d+1,i=>by
  rw[gtTr_succ]
  have ha:nda (emB α (d+1))=emB α d:=rfl
  have hb:ndb (emB α (d+1))=emB α d:=rfl
  have hc:ndc (emB α (d+1))=emB α d:=rfl
  have hd:ndd (emB α (d+1))=emB α d:=rfl
  have he:nde (emB α (d+1))=emB α d:=rfl
  have hf:ndf (emB α (d+1))=emB α d:=rfl
  have hg:ndg (emB α (d+1))=emB α d:=rfl
  have hh:ndh (emB α (d+1))=emB α d:=rfl
  simp only[ha,hb,hc,hd,he,hf,hg,hh,gtTr_em α d,ite_self]
theorem nda_mk{α:Type}{d:Nat}(a b c d' e f g h:Tr α d):nda (mkN a b c d' e f g h)=a:=rfl
theorem ndb_mk{α:Type}{d:Nat}(a b c d' e f g h:Tr α d):ndb (mkN a b c d' e f g h)=b:=rfl
theorem ndc_mk{α:Type}{d:Nat}(a b c d' e f g h:Tr α d):ndc (mkN a b c d' e f g h)=c:=rfl
theorem ndd_mk{α:Type}{d:Nat}(a b c d' e f g h:Tr α d):ndd (mkN a b c d' e f g h)=d':=rfl
theorem nde_mk{α:Type}{d:Nat}(a b c d' e f g h:Tr α d):nde (mkN a b c d' e f g h)=e:=rfl
theorem ndf_mk{α:Type}{d:Nat}(a b c d' e f g h:Tr α d):ndf (mkN a b c d' e f g h)=f:=rfl
theorem ndg_mk{α:Type}{d:Nat}(a b c d' e f g h:Tr α d):ndg (mkN a b c d' e f g h)=g:=rfl
theorem ndh_mk{α:Type}{d:Nat}(a b c d' e f g h:Tr α d):ndh (mkN a b c d' e f g h)=h:=rfl
theorem gtTr_set(α:Type)(x:Option α):∀(d i j:Nat) (t:Tr α d),i<8^d->j<8^d->(gtTr α d j).g ((stTr α d i).s x t)=if j=i then x else(gtTr α d j).g t
 |0,i,j,t,hi,hj=>by
  have:i=0:=by simpa using hi
  have:j=0:=by simpa using hj
  subst i;subst j
  rw[if_pos rfl];rfl
 |d+1,i,j,t,hi,hj=>by
  rw[Nat.pow_succ]at hi hj
  have ih:=fun t=>gtTr_set α x d (i/8) (j/8) t (by omega) (by omega)
  rw[stTr_succ,gtTr_succ,gtTr_succ]
  rcases mod8 i with h|h|h|h|h|h|h|h<;>rcases mod8 j with k|k|k|k|k|k|k|k<;>
   first
    |(have e:¬j=i:=by omega
      simp[h,k,e,nda_mk,ndb_mk,ndc_mk,ndd_mk,nde_mk,ndf_mk,ndg_mk,ndh_mk];done)
    |(have e:(j/8=i/8)=(j=i):=by apply propext;omega
      simp[h,k,ih,e,nda_mk,ndb_mk,ndc_mk,ndd_mk,nde_mk,ndf_mk,ndg_mk,ndh_mk];done)
theorem gtTr_ext(α:Type):∀(d:Nat) (t t':Tr α d),(∀i,i<8^d->(gtTr α d i).g t=(gtTr α d i).g t')->t=t'
 |0,t,t',h=>h 0 (by decide)
 |d+1,t,t',h=>by
  have key:∀r,r<8->∀i,i<8^d->(gtTr α (d+1) (8*i+r)).g t=(gtTr α (d+1) (8*i+r)).g t':=fun r hr i hi=>h _ (by rw[Nat.pow_succ];omega)
  have e:∀r i,r<8->(8*i+r)%8=r:=fun r i hr=>by omega
  have f:∀r i,r<8->(8*i+r)/8=i:=fun r i hr=>by omega
  have ka:nda t=nda t':=gtTr_ext α d _ _ fun i hi=>by have:=key 0 (by decide) i hi;rw[gtTr_succ,gtTr_succ,e 0 i (by decide),f 0 i (by decide)]at this;simpa using this
  have kb:ndb t=ndb t':=gtTr_ext α d _ _ fun i hi=>by have:=key 1 (by decide) i hi;rw[gtTr_succ,gtTr_succ,e 1 i (by decide),f 1 i (by decide)]at this;simpa using this
  have kc:ndc t=ndc t':=gtTr_ext α d _ _ fun i hi=>by have:=key 2 (by decide) i hi;rw[gtTr_succ,gtTr_succ,e 2 i (by decide),f 2 i (by decide)]at this;simpa using this
  have kd:ndd t=ndd t':=gtTr_ext α d _ _ fun i hi=>by have:=key 3 (by decide) i hi;rw[gtTr_succ,gtTr_succ,e 3 i (by decide),f 3 i (by decide)]at this;simpa using this
  have ke:nde t=nde t':=gtTr_ext α d _ _ fun i hi=>by have:=key 4 (by decide) i hi;rw[gtTr_succ,gtTr_succ,e 4 i (by decide),f 4 i (by decide)]at this;simpa using this
  have kf:ndf t=ndf t':=gtTr_ext α d _ _ fun i hi=>by have:=key 5 (by decide) i hi;rw[gtTr_succ,gtTr_succ,e 5 i (by decide),f 5 i (by decide)]at this;simpa using this
  have kg:ndg t=ndg t':=gtTr_ext α d _ _ fun i hi=>by have:=key 6 (by decide) i hi;rw[gtTr_succ,gtTr_succ,e 6 i (by decide),f 6 i (by decide)]at this;simpa using this
  have kh:ndh t=ndh t':=gtTr_ext α d _ _ fun i hi=>by have:=key 7 (by decide) i hi;rw[gtTr_succ,gtTr_succ,e 7 i (by decide),f 7 i (by decide)]at this;simpa using this
  have ht:t=mkN (nda t) (ndb t) (ndc t) (ndd t) (nde t) (ndf t) (ndg t) (ndh t):=rfl
  have ht':t'=mkN (nda t') (ndb t') (ndc t') (ndd t') (nde t') (ndf t') (ndg t') (ndh t'):=rfl
  rw[ht,ht',ka,kb,kc,kd,ke,kf,kg,kh]
structure Cn(α:Type)(d lo:Nat) where
 t:Tr α d
 h:∀i,i<=lo->(gtTr α d i).g t=none
structure FnHi(α:Type)(lo:Nat) where
 f:Nat->Option α
 h:∀i,i<=lo->f i=none
structure T(α:Type) where
 a:Tr α 2
 b:Cn α 4 63
 c:Cn α 6 4095
 d:FnHi α 262143
structure AGet(α:Type) where
 g:T α->Option α
structure ASet(α:Type) where
 s:α->T α->T α
theorem ble_eq(i n:Nat):Nat.ble i n=decide (i<=n):=by
 by_cases h:i<=n
 ·simp[h,Nat.ble_eq_true_of_le h]
 ·cases hb:Nat.ble i n with
  |true=>exact absurd (Nat.le_of_ble_eq_true hb) h
  |false=>simp[h]
theorem Cn.set_b{α:Type}(i:Nat)(x:α)(t:Cn α 4 63)(h1:Nat.ble i 63=false)(h2:Nat.ble i 4095=true):∀j,j<=63->(gtTr α 4 j).g ((stTr α 4 i).s (some x) t.t)=none:=fun j hj=>by
 have p4:8^4=4096:=by decide
 have e1:¬i<=63:=fun h=>by rw[Nat.ble_eq_true_of_le h]at h1;cases h1
 have e2:=Nat.le_of_ble_eq_true h2
 rw[gtTr_set α (some x) 4 i j t.t (by omega) (by omega),if_neg (by omega)]
 exact t.h j hj
theorem Cn.set_c{α:Type}(i:Nat)(x:α)(t:Cn α 6 4095)(h1:Nat.ble i 4095=false)(h2:Nat.ble i 262143=true):∀j,j<=4095->(gtTr α 6 j).g ((stTr α 6 i).s (some x) t.t)=none:=fun j hj=>by
 have p6:8^6=262144:=by decide
 have e1:¬i<=4095:=fun h=>by rw[Nat.ble_eq_true_of_le h]at h1;cases h1
 have e2:=Nat.le_of_ble_eq_true h2
 rw[gtTr_set α (some x) 6 i j t.t (by omega) (by omega),if_neg (by omega)]
 exact t.h j hj
theorem FnHi.set_d{α:Type}(i:Nat)(x:α)(t:FnHi α 262143)(h1:Nat.ble i 262143=false):∀j,j<=262143->(if j=i then some x else t.f j)=none:=fun j hj=>by
 have e1:¬i<=262143:=fun h=>by rw[Nat.ble_eq_true_of_le h]at h1;cases h1
 rw[if_neg (by omega)]
 exact t.h j hj
noncomputable def aget(α:Type)(i:Nat):AGet α:=
 Bool.rec (Bool.rec (Bool.rec ⟨fun t=>t.d.f i⟩ ⟨fun t=>(gtTr α 6 i).g t.c.t⟩ (Nat.ble i 262143)) ⟨fun t=>(gtTr α 4 i).g t.b.t⟩ (Nat.ble i 4095)) ⟨fun t=>(gtTr α 2 i).g t.a⟩ (Nat.ble i 63)
noncomputable def aset(α:Type)(i:Nat):ASet α:=
 Bool.rec (motive:=fun v=>Nat.ble i 63=v->ASet α)
  (fun h1=>Bool.rec (motive:=fun v=>Nat.ble i 4095=v->ASet α)
    (fun h2=>Bool.rec (motive:=fun v=>Nat.ble i 262143=v->ASet α)
      (fun h3=>⟨fun x t=>⟨t.a,t.b,t.c,⟨fun j=>if j=i then some x else t.d.f j,FnHi.set_d i x t.d h3⟩⟩⟩)
      (fun h3=>⟨fun x t=>⟨t.a,t.b,⟨(stTr α 6 i).s (some x) t.c.t,Cn.set_c i x t.c h2 h3⟩,t.d⟩⟩) (Nat.ble i 262143) rfl)
    (fun h2=>⟨fun x t=>⟨t.a,⟨(stTr α 4 i).s (some x) t.b.t,Cn.set_b i x t.b h1 h2⟩,t.c,t.d⟩⟩) (Nat.ble i 4095) rfl)
  (fun _=>⟨fun x t=>⟨(stTr α 2 i).s (some x) t.a,t.b,t.c,t.d⟩⟩) (Nat.ble i 63) rfl
noncomputable def T.e{α:Type}:T α:=⟨emB α 2,⟨emB α 4,fun i _=>gtTr_em α 4 i⟩,⟨emB α 6,fun i _=>gtTr_em α 6 i⟩,⟨fun _=>none,fun _ _=>rfl⟩⟩
noncomputable def T.get{α:Type}(t:T α)(i:Nat):Option α:=(aget α i).g t
noncomputable def T.set{α:Type}(t:T α)(i:Nat)(x:α):T α:=(aset α i).s x t
theorem T.get_eq{α:Type}(t:T α)(i:Nat):t.get i=if i<=63 then(gtTr α 2 i).g t.a else if i<=4095 then(gtTr α 4 i).g t.b.t else if i<=262143 then(gtTr α 6 i).g t.c.t else t.d.f i:=by
 unfold T.get aget
 rw[ble_eq,ble_eq,ble_eq]
 by_cases h:i<=63
 ·simp[h]
 ·by_cases h2:i<=4095
  ·simp[h,h2]
  ·by_cases h3:i<=262143<;>simp[h,h2,h3]
theorem T.get_a{α:Type}(t:T α){i:Nat}(h:i<=63):t.get i=(gtTr α 2 i).g t.a:=by rw[T.get_eq,if_pos h]
theorem T.get_b{α:Type}(t:T α){i:Nat}(h:¬i<=63)(h2:i<=4095):t.get i=(gtTr α 4 i).g t.b.t:=by rw[T.get_eq,if_neg h,if_pos h2]
theorem T.get_c{α:Type}(t:T α){i:Nat}(h:¬i<=4095)(h2:i<=262143):t.get i=(gtTr α 6 i).g t.c.t:=by rw[T.get_eq,if_neg (by omega),if_neg h,if_pos h2]
theorem T.get_d{α:Type}(t:T α){i:Nat}(h:¬i<=262143):t.get i=t.d.f i:=by rw[T.get_eq,if_neg (by omega),if_neg (by omega),if_neg h]
theorem brec{β:Type}(b:Bool){P:Bool->Prop}(hb:P b)(F:P false->β)(G:P true->β):
 (b=true->∀h,Bool.rec (motive:=fun v=>P v->β) F G b hb=G h)∧(b=false->∀h,Bool.rec (motive:=fun v=>P v->β) F G b hb=F h):=by
 cases b
 ·exact⟨fun h=>(by cases h),fun _ _=>rfl⟩
 ·exact⟨fun _ _=>rfl,fun h=>(by cases h)⟩
theorem T.set_a{α:Type}(t:T α){i:Nat}(x:α)(h:Nat.ble i 63=true):t.set i x=⟨(stTr α 2 i).s (some x) t.a,t.b,t.c,t.d⟩:=by
 unfold T.set aset
 rw[(brec (Nat.ble i 63) (P:=fun v=>Nat.ble i 63=v) rfl _ _).1 h h]
theorem T.set_b{α:Type}(t:T α){i:Nat}(x:α)(h1:Nat.ble i 63=false)(h2:Nat.ble i 4095=true):t.set i x=⟨t.a,⟨(stTr α 4 i).s (some x) t.b.t,Cn.set_b i x t.b h1 h2⟩,t.c,t.d⟩:=by
 unfold T.set aset
 rw[(brec (Nat.ble i 63) (P:=fun v=>Nat.ble i 63=v) rfl _ _).2 h1 h1,(brec (Nat.ble i 4095) (P:=fun v=>Nat.ble i 4095=v) rfl _ _).1 h2 h2]
theorem T.set_c{α:Type}(t:T α){i:Nat}(x:α)(h1:Nat.ble i 63=false)(h2:Nat.ble i 4095=false)(h3:Nat.ble i 262143=true):t.set i x=⟨t.a,t.b,⟨(stTr α 6 i).s (some x) t.c.t,Cn.set_c i x t.c h2 h3⟩,t.d⟩:=by
 unfold T.set aset
 rw[(brec (Nat.ble i 63) (P:=fun v=>Nat.ble i 63=v) rfl _ _).2 h1 h1,(brec (Nat.ble i 4095) (P:=fun v=>Nat.ble i 4095=v) rfl _ _).2 h2 h2,(brec (Nat.ble i 262143) (P:=fun v=>Nat.ble i 262143=v) rfl _ _).1 h3 h3]
theorem T.set_d{α:Type}(t:T α){i:Nat}(x:α)(h1:Nat.ble i 63=false)(h2:Nat.ble i 4095=false)(h3:Nat.ble i 262143=false):t.set i x=⟨t.a,t.b,t.c,⟨fun j=>if j=i then some x else t.d.f j,FnHi.set_d i x t.d h3⟩⟩:=by
 unfold T.set aset
 rw[(brec (Nat.ble i 63) (P:=fun v=>Nat.ble i 63=v) rfl _ _).2 h1 h1,(brec (Nat.ble i 4095) (P:=fun v=>Nat.ble i 4095=v) rfl _ _).2 h2 h2,(brec (Nat.ble i 262143) (P:=fun v=>Nat.ble i 262143=v) rfl _ _).2 h3 h3]
theorem T.get_e{α:Type}(i:Nat):(T.e:T α).get i=none:=by
 rw[T.get_eq]
 unfold T.e
 simp only[gtTr_em,ite_self]
theorem ble_no{i n:Nat}(h:¬i<=n):Nat.ble i n=false:=by rw[ble_eq];simp;omega
theorem T.get_set{α:Type}(x:α)(t:T α)(i j:Nat):(t.set i x).get j=if j=i then some x else t.get j:=by
 have p2:8^2=64:=by decide
 have p4:8^4=4096:=by decide
 have p6:8^6=262144:=by decide
 by_cases h1:i<=63
 ·rw[T.set_a t x (Nat.ble_eq_true_of_le h1)]
  by_cases h2:j<=63
  ·rw[T.get_a _ h2,T.get_a _ h2]
   exact gtTr_set α (some x) 2 i j t.a (by omega) (by omega)
  ·rw[if_neg (by omega),T.get_eq,T.get_eq,if_neg h2,if_neg h2]
 by_cases h3:i<=4095
 ·rw[T.set_b t x (ble_no h1) (Nat.ble_eq_true_of_le h3)]
  by_cases h2:j<=63
  ·rw[if_neg (by omega),T.get_a _ h2,T.get_a _ h2]
  ·by_cases h4:j<=4095
   ·rw[T.get_b _ h2 h4,T.get_b _ h2 h4]
    exact gtTr_set α (some x) 4 i j t.b.t (by omega) (by omega)
   ·rw[if_neg (by omega),T.get_eq,T.get_eq,if_neg h2,if_neg h2,if_neg h4,if_neg h4]
 by_cases h5:i<=262143
 ·rw[T.set_c t x (ble_no h1) (ble_no h3) (Nat.ble_eq_true_of_le h5)]
  by_cases h4:j<=4095
  ·rw[if_neg (by omega),T.get_eq,T.get_eq]
   by_cases h2:j<=63
   ·rw[if_pos h2,if_pos h2]
   ·rw[if_neg h2,if_neg h2,if_pos h4,if_pos h4]
  ·by_cases h6:j<=262143
   ·rw[T.get_c _ h4 h6,T.get_c _ h4 h6]
    exact gtTr_set α (some x) 6 i j t.c.t (by omega) (by omega)
   ·rw[if_neg (by omega),T.get_d _ h6,T.get_d _ h6]
 rw[T.set_d t x (ble_no h1) (ble_no h3) (ble_no h5)]
 by_cases h6:j<=262143
 ·rw[if_neg (by omega),T.get_eq,T.get_eq]
  by_cases h2:j<=63
  ·rw[if_pos h2,if_pos h2]
  ·by_cases h4:j<=4095
   ·rw[if_neg h2,if_neg h2,if_pos h4,if_pos h4]
   ·rw[if_neg h2,if_neg h2,if_neg h4,if_neg h4,if_pos h6,if_pos h6]
 ·rw[T.get_d _ h6,T.get_d _ h6]
theorem T.ext{α:Type}{t t':T α}(h:∀i,t.get i=t'.get i):t=t':=by
 have p2:8^2=64:=by decide
 have p4:8^4=4096:=by decide
 have p6:8^6=262144:=by decide
 have ha:t.a=t'.a:=gtTr_ext α 2 _ _ fun i hi=>by
  rw[p2]at hi
  have:=h i
  rw[T.get_a _ (by omega),T.get_a _ (by omega)]at this
  exact this
 have hb:t.b.t=t'.b.t:=gtTr_ext α 4 _ _ fun i hi=>by
  rw[p4]at hi
  by_cases h1:i<=63
  ·rw[t.b.h i h1,t'.b.h i h1]
  ·have:=h i
   rw[T.get_b _ h1 (by omega),T.get_b _ h1 (by omega)]at this
   exact this
 have hc:t.c.t=t'.c.t:=gtTr_ext α 6 _ _ fun i hi=>by
  rw[p6]at hi
  by_cases h1:i<=4095
  ·rw[t.c.h i h1,t'.c.h i h1]
  ·have:=h i
   rw[T.get_c _ h1 (by omega),T.get_c _ h1 (by omega)]at this
   exact this
 have hd:t.d.f=t'.d.f:=funext fun i=>by
  by_cases h1:i<=262143
  ·rw[t.d.h i h1,t'.d.h i h1]
  ·have:=h i
   rw[T.get_d _ h1,T.get_d _ h1]at this
   exact this
 obtain⟨a,⟨b,hb1⟩,⟨c,hc1⟩,⟨d,hd1⟩⟩:=t
 obtain⟨a',⟨b',hb2⟩,⟨c',hc2⟩,⟨d',hd2⟩⟩:=t'
 simp only at ha hb hc hd
 subst ha hb hc hd
 rfl
inductive AV where
 |bool (b:Bool)
 |int (k:IntKind) (n:Int)
 |str (s:ByteArray)
 |ptr (a o:Nat)
 |nilp
 |sl (a o len es:Nat) (cap:Option Nat)
 |nils
 |map (a:Nat)
 |nilm
 |fn (f:Fn) (first captured:List AV)
 |yld (a:Nat)
 |nilf
 |ifc (t:TypeId) (v:AV)
 |nili
 |agg (l:List AV)
 |tup (l:List AV)
structure Loc where
 blk:Nat
 off:Nat
 room:Nat
def glob:Nat:=8
structure Rho where
 fn:Nat->Option Loc
 own:∀g,g<glob->∃r,fn g=some ⟨g,0,r⟩
instance:CoeFun Rho fun _=>Nat->Option Loc:=⟨Rho.fn⟩
mutual
def VR(ρ:Rho):AV->Value->Prop
 | .bool b,V=>V=.bool b
 | .int k n,V=>V=.int k n
 | .str s,V=>V=.string s
 | .ptr a o,V=>∃l,ρ a=some l∧V=.pointer (some ⟨l.blk,l.off+o,none⟩)
 | .nilp,V=>V=.pointer none
 | .sl a o len es (some c),V=>∃l,ρ a=some l∧len<=c∧V=.slice (some ⟨l.blk,l.off+o,none⟩) len c
 | .sl a o len es none,V=>∃l,ρ a=some l∧0<es∧o+len*es<=l.room∧
    (V=.slice (some ⟨l.blk,l.off+o,none⟩) len ((l.room-o)/es)∨len=0∧∃x,V=.slice (some x) 0 0)
 | .nils,V=>V=.slice none 0 0
 | .map a,V=>∃l,ρ a=some l∧V=.map (some l.blk)
 | .nilm,V=>V=.map none
 | .fn f first captured,V=>∃F C,VRs ρ first F∧VRs ρ captured C∧V=.func f F.toArray C.toArray
 | .yld a,V=>∃l,ρ a=some l∧V=.func (.yield l.blk) #[] #[]
 | .nilf,V=>V=.nilFunc
 | .ifc t v,V=>∃U,VR ρ v U∧V=.iface t U
 | .nili,V=>V=.nilIface
 | .agg l,V=>∃L,VRs ρ l L∧V=.agg L.toArray
 | .tup l,V=>∃L,VRs ρ l L∧V=.tuple L.toArray
def VRs(ρ:Rho):List AV->List Value->Prop
 | [],L=>L=[]
 |v::l,L=>∃V M,VR ρ v V∧VRs ρ l M∧L=V::M
end
def Le(ρ ρ':Rho):Prop:=∀a l,ρ a=some l->ρ' a=some l
theorem Le.refl(ρ:Rho):Le ρ ρ:=fun _ _ h=>h
theorem Le.trans{ρ ρ' ρ'':Rho}(h:Le ρ ρ')(h':Le ρ' ρ''):Le ρ ρ'':=fun a l e=>h' a l (h a l e)
mutual
theorem VR.mono{ρ ρ':Rho}(h:Le ρ ρ'):∀(v:AV) (V:Value),VR ρ v V->VR ρ' v V
 | .bool b,V,hv=>by simpa [VR]using hv
 | .int k n,V,hv=>by simpa [VR]using hv
 | .str s,V,hv=>by simpa [VR]using hv
 | .ptr a o,V,hv=>by simp only[VR]at*;obtain⟨l,h1,h2⟩:=hv;exact⟨l,h _ _ h1,h2⟩
 | .nilp,V,hv=>by simpa [VR]using hv
 | .sl a o len es (some c),V,hv=>by simp only[VR]at*;obtain⟨l,h1,h2⟩:=hv;exact⟨l,h _ _ h1,h2⟩
 | .sl a o len es none,V,hv=>by simp only[VR]at*;obtain⟨l,h1,h2⟩:=hv;exact⟨l,h _ _ h1,h2⟩
 | .nils,V,hv=>by simpa [VR]using hv
 | .map a,V,hv=>by simp only[VR]at*;obtain⟨l,h1,h2⟩:=hv;exact⟨l,h _ _ h1,h2⟩
 | .nilm,V,hv=>by simpa [VR]using hv
 | .fn f first captured,V,hv=>by
   simp only[VR]at*
   obtain⟨F,C,h1,h2,h3⟩:=hv
   exact⟨F,C,VRs.mono h _ _ h1,VRs.mono h _ _ h2,h3⟩
 | .yld a,V,hv=>by simp only[VR]at*;obtain⟨l,h1,h2⟩:=hv;exact⟨l,h _ _ h1,h2⟩
 | .nilf,V,hv=>by simpa [VR]using hv
 | .ifc t v,V,hv=>by simp only[VR]at*;obtain⟨U,h1,h2⟩:=hv;exact⟨U,VR.mono h _ _ h1,h2⟩
 | .nili,V,hv=>by simpa [VR]using hv
 | .agg l,V,hv=>by simp only[VR]at*;obtain⟨L,h1,h2⟩:=hv;exact⟨L,VRs.mono h _ _ h1,h2⟩
 | .tup l,V,hv=>by simp only[VR]at*;obtain⟨L,h1,h2⟩:=hv;exact⟨L,VRs.mono h _ _ h1,h2⟩
theorem VRs.mono{ρ ρ':Rho}(h:Le ρ ρ'):∀(l:List AV) (L:List Value),VRs ρ l L->VRs ρ' l L
 | [],L,hl=>by simpa [VRs]using hl
 |v::l,L,hl=>by
  simp only[VRs]at*
  obtain⟨V,M,h1,h2,h3⟩:=hl
  exact⟨V,M,VR.mono h _ _ h1,VRs.mono h _ _ h2,h3⟩
end
theorem VRs.length{ρ:Rho}:∀{l:List AV} {L:List Value},VRs ρ l L->L.length=l.length
 | [],L,h=>by simp only[VRs]at h;simp[h]
 |v::l,L,h=>by
  simp only[VRs]at h
  obtain⟨V,M,_,h2,rfl⟩:=h
  simp[VRs.length h2]
theorem VRs.get{ρ:Rho}:∀{l:List AV} {L:List Value},VRs ρ l L->∀{i:Nat} {v:AV},l[i]?=some v->∃V,L[i]?=some V∧VR ρ v V
 | [],L,_,i,v,hi=>by simp at hi
 |v::l,L,h,0,u,hi=>by
  simp only[VRs]at h
  obtain⟨V,M,h1,h2,rfl⟩:=h
  simp at hi;subst hi
  exact⟨V,by simp,h1⟩
 |v::l,L,h,i+1,u,hi=>by
  simp only[VRs]at h
  obtain⟨V,M,h1,h2,rfl⟩:=h
  simp at hi
  obtain⟨U,e,r⟩:=VRs.get h2 hi
  exact⟨U,by simpa using e,r⟩
theorem VRs.append{ρ:Rho}:∀{l m:List AV} {L M:List Value},VRs ρ l L->VRs ρ m M->VRs ρ (l++m) (L++M)
 | [],m,L,M,h,h'=>by simp only[VRs]at h;subst h;simpa using h'
 |v::l,m,L,M,h,h'=>by
  simp only[VRs]at h
  obtain⟨V,N,h1,h2,rfl⟩:=h
  exact⟨V,N++M,h1,VRs.append h2 h',rfl⟩
theorem VRs.take{ρ:Rho}:∀{l:List AV} {L:List Value} (n:Nat),VRs ρ l L->VRs ρ (l.take n) (L.take n)
 | [],L,n,h=>by simp only[VRs]at h;subst h;simp[VRs]
 |v::l,L,0,h=>by simp[VRs]
 |v::l,L,n+1,h=>by
  simp only[VRs]at h
  obtain⟨V,N,h1,h2,rfl⟩:=h
  exact⟨V,N.take n,h1,VRs.take n h2,rfl⟩
theorem VRs.drop{ρ:Rho}:∀{l:List AV} {L:List Value} (n:Nat),VRs ρ l L->VRs ρ (l.drop n) (L.drop n)
 | [],L,n,h=>by simp only[VRs]at h;subst h;simp[VRs]
 |v::l,L,0,h=>by simpa using h
 |v::l,L,n+1,h=>by
  simp only[VRs]at h
  obtain⟨V,N,h1,h2,rfl⟩:=h
  simpa using VRs.drop n h2
theorem VRs.set{ρ:Rho}:∀{l:List AV} {L:List Value} (i:Nat) {v:AV} {V:Value},VRs ρ l L->VR ρ v V->VRs ρ (l.set i v) (L.set i V)
 | [],L,i,v,V,h,_=>by simp only[VRs]at h;subst h;simp[VRs]
 |u::l,L,0,v,V,h,hv=>by
  simp only[VRs]at h
  obtain⟨U,N,h1,h2,rfl⟩:=h
  exact⟨V,N,hv,h2,rfl⟩
 |u::l,L,i+1,v,V,h,hv=>by
  simp only[VRs]at h
  obtain⟨U,N,h1,h2,rfl⟩:=h
  exact⟨U,N.set i V,h1,VRs.set i h2 hv,rfl⟩
theorem VRs.of_get{ρ:Rho}:∀{l:List AV} {L:List Value},L.length=l.length->(∀(i:Nat) (v:AV) (V:Value),l[i]?=some v->L[i]?=some V->VR ρ v V)->VRs ρ l L
 | [],[],_,_=>by simp[VRs]
 | [],_::_,h,_=>by simp at h
 |_::_,[],h,_=>by simp at h
 |v::l,V::L,h,hg=>⟨V,L,hg 0 v V rfl rfl,VRs.of_get (by simpa using h) (fun i u U hu hU=>hg (i+1) u U (by simpa using hu) (by simpa using hU)),rfl⟩
inductive AO where
 |row (cells:T AV) (len:Nat) (elem:TypeId)
 |map (es:List (AV×AV×Nat)) (clock:Nat)
 |iter (m:Option Nat) (since:Nat) (seen:List Nat) (last:Nat)
 |loop (st:LoopState) (pend:Option Code) (tm:T AV) (N:Nat) (ps:List Nat) (assign body:Code)
 |tab (cells:T AV)
 |dead
structure H where
 next:Nat
 t:T AO
def AO.live:AO->Bool
 | .dead=>false
 |_=>true
def AO.mut:AO->Bool
 | .dead=>false
 | .tab _=>false
 |_=>true
theorem AO.live_of_mut{o:AO}(h:o.mut=true):o.live=true:=by cases o<;>first|rfl|simp[AO.mut]at h
def ERs(ρ:Rho):List (AV×AV×Nat)->List MapEntry->Prop
 | [],L=>L=[]
 |e::l,L=>∃E M,VR ρ e.1 E.key∧VR ρ e.2.1 E.val∧E.born=e.2.2∧ERs ρ l M∧L=E::M
theorem ERs.mono{ρ ρ':Rho}(h:Le ρ ρ'):∀(l:List (AV×AV×Nat)) (L:List MapEntry),ERs ρ l L->ERs ρ' l L
 | [],L,hl=>hl
 |e::l,L,hl=>by
  obtain⟨E,M,h1,h2,h3,h4,h5⟩:=hl
  exact⟨E,M,VR.mono h _ _ h1,VR.mono h _ _ h2,h3,ERs.mono h _ _ h4,h5⟩
def one:Value->Bool
 | .agg _| .tuple _=>false
 |_=>true
def OIn(ρ:Rho)(w:World)(l:Loc):AO->Prop
 | .row cells len e=>len<=l.room∧∃c,w.heap[l.blk]?=some (.cells c e (0,0))∧l.off+l.room=c.size∧
    ∀i v,cells.get i=some v->i<len∧∃V,VR ρ v V∧one V=true∧c[l.off+i]?=some V
 | .map es clock=>∃ES,ERs ρ es ES∧w.heap[l.blk]?=some (.map ES.toArray clock)
 | .iter m since seen last=>l.off=0∧∃M,w.heap[l.blk]?=some (.mapIter M since seen.toArray last)∧match m with
   |none=>M=none
   |some a=>∃k,ρ a=some k∧M=some k.blk
 | .loop st pend tm N ps assign body=>∃tmps fn D,(∀i v,tm.get i=some v->i<tmps.size∧VR ρ v (tmps.getD i (Value.tuple #[])))∧tmps.size=N∧
    w.heap[l.blk]?=some (.loop {state:=st,pending:=pend,fn,tmps,params:=ps.toArray,assign,body,defers:=D})
 | .tab cells=>∃c e f,w.heap[l.blk]?=some (.cells c e f)∧∀i v,cells.get i=some v->∃V,VR ρ v V∧one V=true∧c[l.off+i]?=some V
 | .dead=>True
theorem OIn.mono{ρ ρ':Rho}(h:Le ρ ρ'){w:World}{l:Loc}:∀{o:AO},OIn ρ w l o->OIn ρ' w l o
 | .row cells len e,hi=>by
   obtain⟨h0,c,h1,h2,h3⟩:=hi
   exact⟨h0,c,h1,h2,fun i v hg=>by obtain⟨a,V,b,d,e⟩:=h3 i v hg;exact⟨a,V,VR.mono h _ _ b,d,e⟩⟩
 | .map es clock,hi=>by
   obtain⟨ES,h1,h2⟩:=hi
   exact⟨ES,ERs.mono h _ _ h1,h2⟩
 | .iter m since seen last,hi=>by
   obtain⟨h0,M,h1,h2⟩:=hi
   refine⟨h0,M,h1,?_⟩
   cases m with
   |none=>exact h2
   |some a=>obtain⟨k,h3,h4⟩:=h2;exact⟨k,h _ _ h3,h4⟩
 | .loop st pend tm N ps assign body,hi=>by
   obtain⟨tmps,fn,D,h1,h2,h3⟩:=hi
   exact⟨tmps,fn,D,fun i v hg=>⟨(h1 i v hg).1,VR.mono h _ _ (h1 i v hg).2⟩,h2,h3⟩
 | .tab cells,hi=>by
   obtain⟨c,e,f,h1,h2⟩:=hi
   exact⟨c,e,f,h1,fun i v hg=>by obtain⟨V,b,d,e⟩:=h2 i v hg;exact⟨V,VR.mono h _ _ b,d,e⟩⟩
 | .dead,_=>trivial
theorem OIn.congr{ρ:Rho}{w w':World}{l:Loc}(h:w'.heap[l.blk]?=w.heap[l.blk]?):∀{o:AO},OIn ρ w l o->OIn ρ w' l o
 | .row cells len e,hi=>by
   obtain⟨h0,c,h1,h2,h3⟩:=hi
   exact⟨h0,c,h.trans h1,h2,h3⟩
 | .map es clock,hi=>by
   obtain⟨ES,h1,h2⟩:=hi
   exact⟨ES,h1,h.trans h2⟩
 | .iter m since seen last,hi=>by
   obtain⟨h0,M,h1,h2⟩:=hi
   exact⟨h0,M,h.trans h1,h2⟩
 | .loop st pend tm N ps assign body,hi=>by
   obtain⟨tmps,fn,D,h1,h2,h3⟩:=hi
   exact⟨tmps,fn,D,h1,h2,h.trans h3⟩
 | .tab cells,hi=>by
   obtain⟨c,e,f,h1,h2⟩:=hi
   exact⟨c,e,f,h.trans h1,h2⟩
 | .dead,_=>trivial
structure HR(ρ:Rho)(g:Nat->Option AO)(w:World):Prop where
 obj:∀a o l,g a=some o->o.live=true->ρ a=some l->l.blk<w.heap.size∧OIn ρ w l o
 inj:∀a b o p l m,g a=some o->o.live=true->g b=some p->p.live=true->ρ a=some l->ρ b=some m->l.blk=m.blk->a=b
def Fresh(ρ:Rho)(n:Nat):Prop:=∀a,n<=a->ρ a=none
structure Env(w w':World):Prop where
 os:w'.os=w.os
 tape:w'.tape=w.tape
 output:w'.output=w.output
theorem Env.refl(w:World):Env w w:=⟨rfl,rfl,rfl⟩
theorem Env.trans{w w' w'':World}(h:Env w w')(h':Env w' w''):Env w w'':=⟨h'.os.trans h.os,h'.tape.trans h.tape,h'.output.trans h.output⟩
structure Nx(ρ:Rho)(g:Nat->Option AO)(w:World)(ρ':Rho)(g':Nat->Option AO)(w':World):Prop where
 rel:HR ρ' g' w'
 le:Le ρ ρ'
 env:Env w w'
 size:w.heap.size<=w'.heap.size
 frame:∀r,r<w.heap.size->(∀a o l,g a=some o->o.mut=true->ρ a=some l->l.blk≠r)->w'.heap[r]?=w.heap[r]?
 back:∀a o l,g' a=some o->o.mut=true->ρ' a=some l->l.blk<w.heap.size->∃b p m,g b=some p∧p.mut=true∧ρ b=some m∧m.blk=l.blk
theorem Nx.refl{ρ:Rho}{g:Nat->Option AO}{w:World}(h:HR ρ g w):Nx ρ g w ρ g w:=
 ⟨h,Le.refl _,Env.refl _,Nat.le_refl _,fun _ _ _=>rfl,fun a o l h1 h2 h3 _=>⟨a,o,l,h1,h2,h3,rfl⟩⟩
theorem Nx.trans{ρ ρ' ρ'':Rho}{g g' g'':Nat->Option AO}{w w' w'':World}(h:Nx ρ g w ρ' g' w')(h':Nx ρ' g' w' ρ'' g'' w''):Nx ρ g w ρ'' g'' w'' where
 rel:=h'.rel
 le:=h.le.trans h'.le
 env:=h.env.trans h'.env
 size:=Nat.le_trans h.size h'.size
 frame:=fun r hr hn=>by
  rw[h'.frame r (Nat.lt_of_lt_of_le hr h.size) ?_,h.frame r hr hn]
  intro a o l h1 h2 h3 h4
  obtain⟨b,p,m,k1,k2,k3,k4⟩:=h.back a o l h1 h2 h3 (h4▸hr)
  exact hn b p m k1 k2 k3 (k4.trans h4)
 back:=fun a o l h1 h2 h3 h4=>by
  obtain⟨b,p,m,k1,k2,k3,k4⟩:=h'.back a o l h1 h2 h3 (Nat.lt_of_lt_of_le h4 h.size)
  obtain⟨c,q,n,j1,j2,j3,j4⟩:=h.back b p m k1 k2 k3 (k4▸h4)
  exact⟨c,q,n,j1,j2,j3,j4.trans k4⟩
theorem HR.drew{ρ:Rho}{g:Nat->Option AO}{w w':World}(h:HR ρ g w)(hh:w'.heap=w.heap):HR ρ g w' where
 obj:=fun a o l h1 h2 h3=>by
  obtain⟨k2,k3⟩:=h.obj a o l h1 h2 h3
  exact⟨by rw[hh];exact k2,OIn.congr (by rw[hh]) k3⟩
 inj:=h.inj
theorem Nx.drew{ρ:Rho}{g:Nat->Option AO}{w w':World}(h:HR ρ g w)(hh:w'.heap=w.heap)(he:Env w w'):Nx ρ g w ρ g w':=
 ⟨h.drew hh,Le.refl _,he,by rw[hh];exact Nat.le_refl _,fun _ _ _=>by rw[hh],fun a o l h1 h2 h3 _=>⟨a,o,l,h1,h2,h3,rfl⟩⟩
def Kp(ρ:Rho)(h:H)(ρ':Rho)(h':H):Prop:=h.next<=h'.next∧∀a,a<h.next->ρ a=none->ρ' a=none∧h'.t.get a=h.t.get a
theorem Kp.refl(ρ:Rho)(h:H):Kp ρ h ρ h:=⟨Nat.le_refl _,fun _ _ e=>⟨e,rfl⟩⟩
theorem Kp.trans{ρ ρ' ρ'':Rho}{h h' h'':H}(k:Kp ρ h ρ' h')(k':Kp ρ' h' ρ'' h''):Kp ρ h ρ'' h'':=
 ⟨Nat.le_trans k.1 k'.1,fun a ha e=>by
   obtain⟨e1,e2⟩:=k.2 a ha e
   obtain⟨e3,e4⟩:=k'.2 a (Nat.lt_of_lt_of_le ha k.1) e1
   exact⟨e3,e4.trans e2⟩⟩
structure Way(ρ:Rho)(h:H)(w:World)(ρ':Rho)(h':H)(w':World):Prop where
 nx:Nx ρ h.t.get w ρ' h'.t.get w'
 fresh:Fresh ρ' h'.next
 kp:Kp ρ h ρ' h'
theorem Way.refl{ρ:Rho}{h:H}{w:World}(hr:HR ρ h.t.get w)(hf:Fresh ρ h.next):Way ρ h w ρ h w:=⟨Nx.refl hr,hf,Kp.refl _ _⟩
theorem Way.trans{ρ ρ' ρ'':Rho}{h h' h'':H}{w w' w'':World}(k:Way ρ h w ρ' h' w')(k':Way ρ' h' w' ρ'' h'' w''):Way ρ h w ρ'' h'' w'':=
 ⟨k.nx.trans k'.nx,k'.fresh,k.kp.trans k'.kp⟩
theorem Way.drew{ρ:Rho}{h:H}{w w':World}(hr:HR ρ h.t.get w)(hf:Fresh ρ h.next)(hh:w'.heap=w.heap)(he:Env w w'):Way ρ h w ρ h w':=⟨Nx.drew hr hh he,hf,Kp.refl _ _⟩
end Go.Proofs.YtghmnaojmpjglaaGreatDoor.Eo
namespace Go.Proofs.YtghmnaojmpjglaaGreatDoor.Eo
noncomputable section
def putList(k:Nat)(l:List AV)(t:T AV):T AV:=List.rec (motive:=fun _=>Nat->T AV->T AV) (fun _ t=>t) (fun v _ ih k t=>ih (Nat.succ k) (t.set k v)) l k t
theorem putList_nil(k:Nat)(t:T AV):putList k [] t=t:=rfl
theorem putList_cons(k:Nat)(v:AV)(l:List AV)(t:T AV):putList k (v::l) t=putList (k+1) l (t.set k v):=rfl
theorem putList_get:∀(l:List AV) (k:Nat) (t:T AV) (i:Nat),(putList k l t).get i=if k<=i∧i<k+l.length then l[i-k]? else t.get i
 | [],k,t,i=>by simp[putList_nil];omega
 |v::l,k,t,i=>by
  rw[putList_cons,putList_get l (k+1),T.get_set]
  by_cases h1:k+1<=i∧i<k+1+l.length
  ·rw[if_pos h1,if_pos (by simp;omega),show i-k=(i-(k+1))+1 by omega]
   simp
  ·rw[if_neg h1]
   by_cases h2:i=k
   ·subst h2;simp
   ·rw[if_neg h2,if_neg (by simp;omega)]
def getList(t:T AV)(o n:Nat):Option (List AV):=
 Nat.rec (motive:=fun _=>Nat->Option (List AV)) (fun _=>some []) (fun _ ih o=>Option.rec none (fun v=>Option.rec none (fun l=>some (v::l)) (ih (Nat.succ o))) (t.get o)) n o
theorem getList_zero(t:T AV)(o:Nat):getList t o 0=some []:=rfl
theorem getList_succ(t:T AV)(o n:Nat):getList t o (n+1)=match t.get o with
 |some v=>match getList t (o+1) n with
  |some l=>some (v::l)
  |none=>none
 |none=>none:=by
 show(Option.rec none (fun v=>Option.rec none (fun l=>some (v::l)) (getList t (o+1) n)) (t.get o):Option (List AV))=_
 cases t.get o with
 |none=>rfl
 |some v=>cases getList t (o+1) n<;>rfl
theorem getList_spec(t:T AV):∀(n o:Nat) (l:List AV),getList t o n=some l->l.length=n∧∀i,i<n->t.get (o+i)=l[i]?
 |0,o,l,h=>by simp[getList_zero]at h;subst h;simp
 |n+1,o,l,h=>by
  rw[getList_succ]at h
  split at h
  ·rename_i v hv
   split at h
   ·rename_i m hm
    simp at h;subst h
    obtain⟨h1,h2⟩:=getList_spec t n (o+1) m hm
    refine⟨by simp[h1],fun i hi=>?_⟩
    cases i with
    |zero=>simpa using hv
    |succ i=>have:=h2 i (by omega);simpa [show o+(i+1)=o+1+i by omega]using this
   ·simp at h
  ·simp at h
theorem addr_add(b o i:Nat):(⟨b,o,none⟩:Addr).add i=⟨b,o+i,none⟩:=by
 unfold Addr.add
 split
 ·rename_i h;subst h;rfl
 ·rfl
theorem HR.row{ρ:Rho}{g:Nat->Option AO}{w:World}(h:HR ρ g w){a:Nat}{l:Loc}{cells:T AV}{len:Nat}{e:TypeId}(hg:g a=some (.row cells len e))(hl:ρ a=some l):
 l.blk<w.heap.size∧OIn ρ w l (.row cells len e):=by
 exact h.obj a _ l hg rfl hl
theorem cell_of{ρ:Rho}{g:Nat->Option AO}{w:World}(h:HR ρ g w){a:Nat}{l:Loc}{cells:T AV}{len:Nat}{e:TypeId}(hg:g a=some (.row cells len e))(hl:ρ a=some l)
 {i:Nat} {v:AV} (hv:cells.get i=some v):∃V,VR ρ v V∧one V=true∧w.cell? ⟨l.blk,l.off+i,none⟩=some V:=by
 obtain⟨_,_,c,hc,_,hi⟩:=h.row hg hl
 obtain⟨_,V,h1,h2,h3⟩:=hi i v hv
 exact⟨V,h1,h2,by simp[World.cell?,hc,h3]⟩
theorem cells_of{ρ:Rho}{g:Nat->Option AO}{w:World}(h:HR ρ g w){a:Nat}{l:Loc}{cells:T AV}{len:Nat}{e:TypeId}(hg:g a=some (.row cells len e))(hl:ρ a=some l):
 ∀{n o:Nat} {vs:List AV},getList cells o n=some vs->∃Vs,VRs ρ vs Vs∧Vs.length=n∧(∀V∈Vs,one V=true)∧∀i V,Vs[i]?=some V->w.cell? ⟨l.blk,l.off+o+i,none⟩=some V
 |0,o,vs,hv=>by simp[getList_zero]at hv;subst hv;exact⟨[],rfl,rfl,by simp,by simp⟩
 |n+1,o,vs,hv=>by
  rw[getList_succ]at hv
  split at hv
  ·rename_i v h1
   split at hv
   ·rename_i m h2
    simp at hv;subst hv
    obtain⟨V,k1,k2,k3⟩:=cell_of h hg hl h1
    obtain⟨Vs,j1,j2,j3,j4⟩:=cells_of h hg hl h2
    refine⟨V::Vs,⟨V,Vs,k1,j1,rfl⟩,by simp[j2],by simpa using⟨k2,j3⟩,fun i U hU=>?_⟩
    cases i with
    |zero=>simp at hU;subst hU;exact k3
    |succ i=>simp at hU;have:=j4 i U hU;rwa [show l.off+o+(i+1)=l.off+(o+1)+i by omega]
   ·simp at hv
  ·simp at hv
theorem cell_of_tab{ρ:Rho}{g:Nat->Option AO}{w:World}(h:HR ρ g w){a:Nat}{l:Loc}{cells:T AV}(hg:g a=some (.tab cells))(hl:ρ a=some l)
 {i:Nat} {v:AV} (hv:cells.get i=some v):∃V,VR ρ v V∧one V=true∧w.cell? ⟨l.blk,l.off+i,none⟩=some V:=by
 obtain⟨_,c,e,f,h1,h2⟩:=h.obj a _ _ hg rfl hl
 obtain⟨V,k1,k2,k3⟩:=h2 i v hv
 exact⟨V,k1,k2,by simp[World.cell?,h1,k3]⟩
theorem cells_of_tab{ρ:Rho}{g:Nat->Option AO}{w:World}(h:HR ρ g w){a:Nat}{l:Loc}{cells:T AV}(hg:g a=some (.tab cells))(hl:ρ a=some l):
 ∀{n o:Nat} {vs:List AV},getList cells o n=some vs->∃Vs,VRs ρ vs Vs∧Vs.length=n∧(∀V∈Vs,one V=true)∧∀i V,Vs[i]?=some V->w.cell? ⟨l.blk,l.off+o+i,none⟩=some V
 |0,o,vs,hv=>by simp[getList_zero]at hv;subst hv;exact⟨[],rfl,rfl,by simp,by simp⟩
 |n+1,o,vs,hv=>by
  rw[getList_succ]at hv
  split at hv
  ·rename_i v h1
   split at hv
   ·rename_i m h2
    simp at hv;subst hv
    obtain⟨V,k1,k2,k3⟩:=cell_of_tab h hg hl h1
    obtain⟨Vs,j1,j2,j3,j4⟩:=cells_of_tab h hg hl h2
    refine⟨V::Vs,⟨V,Vs,k1,j1,rfl⟩,by simp[j2],by simpa using⟨k2,j3⟩,fun i U hU=>?_⟩
    cases i with
    |zero=>simp at hU;subst hU;exact k3
    |succ i=>simp at hU;have:=j4 i U hU;rwa [show l.off+o+(i+1)=l.off+(o+1)+i by omega]
   ·simp at hv
  ·simp at hv
theorem load_cell{P:Program}{w:World}{a:Addr}{V:Value}(h:w.cell? a=some V)(m:Mode):(load a m).run P w=.ok V w:=by
 rw[run_load,h]
theorem load_list{P:Program}{w:World}{a:Addr}{Vs:List Value}{n:Nat}(hn:Vs.length=n)(hs:a.spot=none)(h:∀(i:Nat) (V:Value),Vs[i]?=some V->w.cell? ⟨a.block,a.off+i,none⟩=some V):
 (loadCells a n).run P w=.ok Vs.toArray w:=by
 subst hn
 refine run_loadCells_list w a Vs fun j v hj=>?_
 obtain⟨b,o,s⟩:=a
 simp at hs;subst hs
 rw[addr_add]
 exact h j v hj
theorem World.setRow_size(w:World)(g:Nat)(c:Array Value):(w.setRow g c).heap.size=w.heap.size:=by
 unfold World.setRow;simp
theorem World.setRow_env(w:World)(g:Nat)(c:Array Value):Env w (w.setRow g c):=⟨rfl,rfl,rfl⟩
theorem World.setRow_at(w:World)(g:Nat)(c:Array Value){cur:Array Value}{t:TypeId}{f:Nat×Nat}(h:w.heap[g]?=some (.cells cur t f)):(w.setRow g c).heap[g]?=some (.cells c t f):=by
 exact setRow_heap w g cur _ t _ h
theorem World.setRow_other(w:World)(g:Nat)(c:Array Value){r:Nat}(h:r≠g):(w.setRow g c).heap[r]?=w.heap[r]?:=by
 unfold World.setRow
 rw[Array.getElem?_modify]
 simp[Ne.symm h]
theorem one_oneCell'{V:Value}:one V=true->V.oneCell'=true:=by
 cases V<;>simp[one,Value.oneCell']
theorem nx_set{ρ:Rho}{g g':Nat->Option AO}{w w':World}(h:HR ρ g w){a:Nat}{l:Loc}{o o':AO}(hg:g a=some o)(hmu:o.mut=true)(hl:ρ a=some l)
 (hg':∀b,g' b=if b=a then some o' else g b) (henv:Env w w') (hsz:w'.heap.size=w.heap.size) (hot:∀r,r≠l.blk->w'.heap[r]?=w.heap[r]?) (ho':o'.live=true) (hin:OIn ρ w' l o'):Nx ρ g w ρ g' w':=by
 have ho:=AO.live_of_mut hmu
 have hblk:l.blk<w.heap.size:=(h.obj a o l hg ho hl).1
 refine⟨⟨?_,?_⟩,Le.refl _,henv,by omega,?_,?_⟩
 ·intro b p m hb hp h1
  rw[hg']at hb
  by_cases e:b=a
  ·subst e
   simp at hb;subst hb
   rw[hl]at h1;simp at h1;subst h1
   exact⟨by omega,hin⟩
  ·rw[if_neg e]at hb
   obtain⟨h2,h3⟩:=h.obj b p m hb hp h1
   refine⟨by omega,OIn.congr (hot _ fun hh=>e (h.inj b a p o m l hb hp hg ho h1 hl hh)) h3⟩
 ·intro b c p q m n hb hp hc hq hm hn hmn
  rw[hg']at hb hc
  have hb':∃p,g b=some p∧p.live=true:=by
   by_cases e:b=a
   ·subst e;exact⟨o,hg,ho⟩
   ·rw[if_neg e]at hb;exact⟨p,hb,hp⟩
  have hc':∃p,g c=some p∧p.live=true:=by
   by_cases e:c=a
   ·subst e;exact⟨o,hg,ho⟩
   ·rw[if_neg e]at hc;exact⟨q,hc,hq⟩
  obtain⟨p',hb1,hb2⟩:=hb'
  obtain⟨q',hc1,hc2⟩:=hc'
  exact h.inj b c p' q' m n hb1 hb2 hc1 hc2 hm hn hmn
 ·intro r hr hn
  exact hot r fun e=>hn a o l hg hmu hl e.symm
 ·intro b p m hb hp hm' _
  rw[hg']at hb
  by_cases e:b=a
  ·subst e
   rw[hl]at hm';simp at hm';subst hm'
   exact⟨b,o,l,hg,hmu,hl,rfl⟩
  ·rw[if_neg e]at hb
   exact⟨b,p,m,hb,hp,hm',rfl⟩
theorem glob_le{ρ:Rho}{a:Nat}(h:ρ a=none):glob<=a:=by
 rcases Nat.lt_or_ge a glob with hh|hh
 ·obtain⟨r,e⟩:=ρ.own a hh
  rw[h]at e;simp at e
 ·exact hh
def upd(ρ:Rho)(a:Nat)(l:Loc):Rho:=⟨fun b=>if b=a∧glob<=a then some l else ρ b,fun g hg=>by
 obtain⟨r,e⟩:=ρ.own g hg
 exact⟨r,by rw[if_neg (by omega)];exact e⟩⟩
theorem upd_at{ρ:Rho}{a b:Nat}{l:Loc}:upd ρ a l b=if b=a∧glob<=a then some l else ρ b:=rfl
theorem upd_le'{ρ:Rho}{a:Nat}{l:Loc}(h:ρ a=none):Le ρ (upd ρ a l):=fun b m hb=>by
 rw[upd_at]
 by_cases e:b=a
 ·subst e;rw[h]at hb;simp at hb
 ·rw[if_neg (by simp[e])];exact hb
theorem upd_le{ρ:Rho}{a:Nat}{l:Loc}{n:Nat}(h:Fresh ρ n)(ha:n<=a):Le ρ (upd ρ a l):=upd_le' (h a ha)
theorem upd_other{ρ:Rho}{a b:Nat}{l:Loc}(h:b≠a):upd ρ a l b=ρ b:=by simp[upd_at,h]
theorem upd_same{ρ:Rho}{a:Nat}{l:Loc}(h:ρ a=none):upd ρ a l a=some l:=by simp[upd_at,glob_le h]
theorem upd_fresh{ρ:Rho}{a:Nat}{l:Loc}(h:Fresh ρ a):Fresh (upd ρ a l) (a+1):=fun b hb=>by
 rw[upd_at,if_neg (by omega)];exact h b (by omega)
theorem nx_new{ρ:Rho}{g g':Nat->Option AO}{w:World}(h:HR ρ g w){a:Nat}{l:Loc}{o:AO}{obj:Obj}(hf:ρ a=none)(hl:l.blk=w.heap.size)
 (hg':∀b,g' b=if b=a then some o else g b) (hin:OIn (upd ρ a l) (w.alloc obj) l o):Nx ρ g w (upd ρ a l) g' (w.alloc obj):=by
 have hle:Le ρ (upd ρ a l):=upd_le' hf
 have hold:∀r,r<w.heap.size->(w.alloc obj).heap[r]?=w.heap[r]?:=fun r hr=>by
  simp only[World.alloc,Array.getElem?_push]
  rw[if_neg (by omega)]
 refine⟨⟨?_,?_⟩,hle,⟨rfl,rfl,rfl⟩,by simp,fun r hr _=>hold r hr,?_⟩
 ·intro b p m hb hp hm
  rw[hg']at hb
  by_cases e:b=a
  ·subst e
   simp at hb;subst hb
   rw[upd_same hf]at hm;simp at hm;subst hm
   exact⟨by simp;omega,hin⟩
  ·rw[if_neg e]at hb
   rw[upd_other e]at hm
   obtain⟨h2,h3⟩:=h.obj b p m hb hp hm
   exact⟨by simp;omega,OIn.mono hle (OIn.congr (hold _ h2) h3)⟩
 ·intro b c p q m n hb hp hc hq hm hn hmn
  rw[hg']at hb hc
  by_cases e:b=a
  ·by_cases e':c=a
   ·rw[e,e']
   ·rw[if_neg e']at hc
    rw[upd_other e']at hn
    have:=(h.obj c q n hc hq hn).1
    rw[e,upd_same hf]at hm;simp at hm;subst hm
    omega
  ·rw[if_neg e]at hb
   rw[upd_other e]at hm
   have k:=(h.obj b p m hb hp hm).1
   by_cases e':c=a
   ·rw[e',upd_same hf]at hn;simp at hn;subst hn
    omega
   ·rw[if_neg e']at hc
    rw[upd_other e']at hn
    exact h.inj b c p q m n hb hp hc hq hm hn hmn
 ·intro b p m hb hp hm hlt
  rw[hg']at hb
  by_cases e:b=a
  ·subst e
   rw[upd_same hf]at hm;simp at hm;subst hm
   omega
  ·rw[if_neg e]at hb
   rw[upd_other e]at hm
   exact⟨b,p,m,hb,hp,hm,rfl⟩
theorem nx_write{ρ:Rho}{h:H}{w:World}(hr:HR ρ h.t.get w){a:Nat}{l:Loc}{cells:T AV}{len:Nat}{e:TypeId}(hg:h.t.get a=some (.row cells len e))(hl:ρ a=some l)
 {vs:List AV} {Vs:List Value} (hv:VRs ρ vs Vs) (h1:∀V∈Vs,one V=true) {o:Nat} (ho:o+vs.length<=len) (P:Program):
 ∃w',(storeCells ⟨l.blk,l.off+o,none⟩ Vs).run P w=.ok () w'∧Nx ρ h.t.get w ρ (h.t.set a (.row (putList o vs cells) len e)).get w':=by
 obtain⟨hb,hlen,c,hc,hroom,hi⟩:=hr.row hg hl
 have hL:Vs.length=vs.length:=hv.length
 have hrun:=run_storeCells_at (P:=P) l.blk (l.off+o) e Vs 0 c w hc (by omega) (fun V hV=>one_oneCell' (h1 V hV))
 rw[Nat.add_zero]at hrun
 refine⟨_,hrun,nx_set hr hg rfl hl (fun b=>T.get_set _ _ _ _) (World.setRow_env _ _ _) (World.setRow_size _ _ _) (fun r hne=>World.setRow_other _ _ _ hne) rfl ?_⟩
 refine⟨hlen,_,World.setRow_at _ _ _ hc,?_,fun i v hgi=>?_⟩
 ·have hcl:c.toList.length=c.size:=by simp
  simp only[List.size_toArray,List.length_append,List.length_take,List.length_drop,hcl]
  omega
 ·rw[putList_get]at hgi
  have hcl:c.toList.length=c.size:=by simp
  by_cases hh:o<=i∧i<o+vs.length
  ·rw[if_pos hh]at hgi
   have hg2:vs[i-o]?=some v:=hgi
   obtain⟨V,k1,k2⟩:=hv.get hg2
   refine⟨by omega,V,k2,h1 V (List.mem_of_getElem? k1),?_⟩
   simp only[List.getElem?_toArray]
   rw[List.append_assoc,List.getElem?_append_right (by simp;omega),List.getElem?_append_left (by simp[hcl];omega)]
   rw[←k1]
   congr 1
   simp[hcl];omega
  ·rw[if_neg hh]at hgi
   obtain⟨j1,V,j2,j3,j4⟩:=hi i v hgi
   refine⟨j1,V,j2,j3,?_⟩
   rw[←j4]
   simp only[List.getElem?_toArray]
   have hc2:∀k:Nat,c[k]?=c.toList[k]?:=fun k=>by simp
   by_cases hlo:i<o
   ·rw[List.append_assoc,List.getElem?_append_left (by simp[hcl];omega),List.getElem?_take,if_pos (by omega),hc2]
   ·rw[List.getElem?_append_right (by simp[hcl];omega),List.getElem?_drop,hc2]
    congr 1
    simp[hcl];omega
theorem way_set{ρ:Rho}{h:H}{w w':World}(hf:Fresh ρ h.next){a:Nat}{l:Loc}{o:AO}(hl:ρ a=some l)(hn:Nx ρ h.t.get w ρ (h.t.set a o).get w'):Way ρ h w ρ ⟨h.next,h.t.set a o⟩ w':=
 ⟨hn,hf,Nat.le_refl _,fun b hb e=>⟨e,by
   show(h.t.set a o).get b=_
   rw[T.get_set,if_neg]
   intro he
   rw[he,hl]at e
   simp at e⟩⟩
theorem way_new{ρ:Rho}{h:H}{w w':World}(hf:Fresh ρ h.next){l:Loc}{o:AO}(hn:Nx ρ h.t.get w (upd ρ h.next l) (h.t.set h.next o).get w'):Way ρ h w (upd ρ h.next l) ⟨h.next+1,h.t.set h.next o⟩ w':=
 ⟨hn,upd_fresh hf,Nat.le_succ _,fun b hb e=>⟨by rw[upd_other (by omega)];exact e,by
   show(h.t.set h.next o).get b=_
   rw[T.get_set,if_neg (by omega)]⟩⟩
def cv1:Value->Option AV
 | .bool b=>some (.bool b)
 | .int k n=>some (.int k n)
 | .string s=>some (.str s)
 | .pointer none=>some .nilp
 | .slice none 0 0=>some .nils
 | .map none=>some .nilm
 | .nilFunc=>some .nilf
 | .nilIface=>some .nili
 |_=>none
def cvs:List Value->Option (List AV)
 | []=>some []
 |V::L=>match cv1 V with
  |some v=>match cvs L with
   |some l=>some (v::l)
   |none=>none
  |none=>none
def cv:Value->Option AV
 | .agg cs=>(cvs cs.toList).map .agg
 |V=>cv1 V
theorem cv1_sound{ρ:Rho}{V:Value}{v:AV}(h:cv1 V=some v):VR ρ v V∧one V=true:=by
 unfold cv1 at h
 split at h<;>first
  |(simp at h;subst h;exact⟨by simp[VR],rfl⟩)
  |simp at h
theorem cvs_sound{ρ:Rho}:∀{L:List Value} {l:List AV},cvs L=some l->VRs ρ l L∧∀V∈L,one V=true
 | [],l,h=>by simp[cvs]at h;subst h;exact⟨rfl,by simp⟩
 |V::L,l,h=>by
  unfold cvs at h
  split at h
  ·rename_i v hv
   split at h
   ·rename_i m hm
    simp at h;subst h
    obtain⟨k1,k2⟩:=cv1_sound (ρ:=ρ) hv
    obtain⟨j1,j2⟩:=cvs_sound (ρ:=ρ) hm
    exact⟨⟨V,L,k1,j1,rfl⟩,by simpa using⟨k2,j2⟩⟩
   ·simp at h
  ·simp at h
theorem cv_sound{ρ:Rho}{V:Value}{v:AV}(h:cv V=some v):VR ρ v V:=by
 unfold cv at h
 split at h
 ·rename_i cs
  simp only[Option.map_eq_some_iff]at h
  obtain⟨l,h1,rfl⟩:=h
  exact⟨cs.toList,(cvs_sound h1).1,by simp⟩
 ·exact(cv1_sound h).1
inductive Opd where
 |t (n:Nat)
 |c (v:AV)
def cOpd:Operand->Option Opd
 | .tmp t=>some (.t t)
 | .const v=>(cv v).map .c
 | .func f=>some (.c (.fn (.func f) [] []))
 | .global g=>cond (Nat.ble (g+1) glob) (some (.c (.ptr g 0))) none
def cOpds:List Operand->Option (List Opd)
 | []=>some []
 |x::l=>match cOpd x with
  |some y=>match cOpds l with
   |some m=>some (y::m)
   |none=>none
  |none=>none
def evo(tm:T AV):Opd->Option AV
 | .t n=>tm.get n
 | .c v=>some v
def evos(tm:T AV):List Opd->Option (List AV)
 | []=>some []
 |x::l=>match evo tm x with
  |some v=>match evos tm l with
   |some m=>some (v::m)
   |none=>none
  |none=>none
def TR(ρ:Rho)(tm:T AV)(tmps:Array Value):Prop:=∀i v,tm.get i=some v->i<tmps.size∧VR ρ v (tmps.getD i undef)
theorem TR.mono{ρ ρ':Rho}(h:Le ρ ρ'){tm:T AV}{tmps:Array Value}(ht:TR ρ tm tmps):TR ρ' tm tmps:=
 fun i v hi=>⟨(ht i v hi).1,VR.mono h _ _ (ht i v hi).2⟩
theorem TR.set{ρ:Rho}{tm:T AV}{tmps:Array Value}(ht:TR ρ tm tmps){d:Nat}{v:AV}{V:Value}(hd:d<tmps.size)(hv:VR ρ v V):
 TR ρ (tm.set d v) (tmps.setIfInBounds d V):=by
 intro i u hi
 rw[T.get_set]at hi
 by_cases e:i=d
 ·subst e
  simp at hi;subst hi
  refine⟨by simpa using hd,?_⟩
  simpa [Array.getD_eq_getD_getElem?,hd]using hv
 ·rw[if_neg e]at hi
  obtain⟨h1,h2⟩:=ht i u hi
  refine⟨by simpa using h1,?_⟩
  have:(tmps.setIfInBounds d V).getD i undef=tmps.getD i undef:=by
   simp only[Array.getD_eq_getD_getElem?,Array.getElem?_setIfInBounds_ne (Ne.symm e)]
  rw[this];exact h2
theorem evo_sound{ρ:Rho}{tm:T AV}{a:Act}(ht:TR ρ tm a.tmps){x:Operand}{y:Opd}{v:AV}(hc:cOpd x=some y)(hv:evo tm y=some v):VR ρ v (a.eval x):=by
 cases x with
 |tmp t=>simp[cOpd]at hc;subst hc;exact(ht t v hv).2
 |const V=>
  simp only[cOpd,Option.map_eq_some_iff]at hc
  obtain⟨u,h1,rfl⟩:=hc
  simp[evo]at hv;subst hv
  exact cv_sound h1
 |global g=>
  simp only[cOpd]at hc
  cases hb:Nat.ble (g+1) glob with
  |false=>rw[hb]at hc;simp at hc
  |true=>
   rw[hb]at hc
   simp at hc;subst hc
   simp[evo]at hv;subst hv
   obtain⟨r,e⟩:=ρ.own g (Nat.le_of_ble_eq_true hb)
   exact⟨_,e,rfl⟩
 |func f=>
  simp[cOpd]at hc;subst hc
  simp[evo]at hv;subst hv
  exact⟨[],[],rfl,rfl,rfl⟩
theorem evos_sound{ρ:Rho}{tm:T AV}{a:Act}(ht:TR ρ tm a.tmps):∀{xs:List Operand} {ys:List Opd} {vs:List AV},cOpds xs=some ys->evos tm ys=some vs->VRs ρ vs (xs.map a.eval)
 | [],ys,vs,hc,hv=>by simp[cOpds]at hc;subst hc;simp[evos]at hv;subst hv;rfl
 |x::xs,ys,vs,hc,hv=>by
  unfold cOpds at hc
  split at hc
  ·rename_i y hy
   split at hc
   ·rename_i m hm
    simp at hc;subst hc
    unfold evos at hv
    split at hv
    ·rename_i v h1
     split at hv
     ·rename_i vs' h2
      simp at hv;subst hv
      exact⟨_,_,evo_sound ht hy h1,evos_sound ht hm h2,rfl⟩
     ·simp at hv
    ·simp at hv
   ·simp at hc
  ·simp at hc
def sz(P:Program)(t:TypeId):Option Nat:=(P.info? t).map (·.size)
def zcells(P:Program)(t:TypeId):Option (List AV):=
 match P.info? t with
 |some i=>match i.zero with
  |some z=>cvs z.cells.toList
  |none=>none
 |none=>none
def aggOf(P:Program)(t:TypeId):Option (Option Nat):=
 match P.underlying t,sz P t with
 |some (.struct _),some n=>some (some n)
 |some (.array _ _),some n=>some (some n)
 |some _,some _=>some none
 |_,_=>none
theorem run_typeInfo{P:Program}{t:TypeId}{i:TypeInfo}(h:P.info? t=some i)(w:World):(typeInfo t).run P w=.ok i w:=by
 simp[typeInfo,h]
theorem run_underlying{P:Program}{t:TypeId}{d:TypeDesc}(h:P.underlying t=some d)(w:World):(underlying t).run P w=.ok d w:=by
 simp[underlying,h]
theorem run_sizeOf{P:Program}{t:TypeId}{n:Nat}(h:sz P t=some n)(w:World):(sizeOf t).run P w=.ok n w:=by
 simp only[sz,Option.map_eq_some_iff]at h
 obtain⟨i,h1,rfl⟩:=h
 simp[sizeOf,run_typeInfo h1]
theorem run_zeroValue{P:Program}{t:TypeId}{l:List AV}(h:zcells P t=some l)(ρ:Rho)(w:World):∃z:Value,(zeroValue t).run P w=.ok z w∧VRs ρ l z.cells.toList∧∀V∈z.cells.toList,one V=true:=by
 unfold zcells at h
 split at h
 ·rename_i i hi
  split at h
  ·rename_i z hz
   obtain⟨h1,h2⟩:=cvs_sound (ρ:=ρ) h
   exact⟨z,by simp[zeroValue,run_typeInfo hi,hz],h1,h2⟩
  ·simp at h
 ·simp at h
theorem run_isAgg{P:Program}{t:TypeId}{g:Option Nat}(h:aggOf P t=some g)(w:World):(isAgg t).run P w=.ok g.isSome w:=by
 unfold aggOf at h
 split at h<;>first
  |(rename_i h1 h2;simp at h;subst h;simp[isAgg,run_underlying h1];done)
  |(rename_i d h1 h2 h3 h4;simp at h;subst h;simp only[isAgg,Sem.run_bind,run_underlying h3,Result.andThen_ok];split<;>simp_all)
  |simp at h
theorem aggOf_size{P:Program}{t:TypeId}{n:Nat}(h:aggOf P t=some (some n)):sz P t=some n:=by
 unfold aggOf at h
 split at h<;>simp_all
def iLt(x y:Int):Bool:=match x,y with
 | .ofNat a,.ofNat b=>Nat.blt a b
 | .ofNat _,.negSucc _=>false
 | .negSucc _,.ofNat _=>true
 | .negSucc a,.negSucc b=>Nat.blt b a
def iEq(x y:Int):Bool:=match x,y with
 | .ofNat a,.ofNat b=>Nat.beq a b
 | .negSucc a,.negSucc b=>Nat.beq a b
 |_,_=>false
theorem blt_iff(a b:Nat):Nat.blt a b=decide (a<b):=by
 show Nat.ble (a+1) b=_
 rw[Bool.eq_iff_iff,Nat.ble_eq];simp;omega
theorem beq_iff(a b:Nat):Nat.beq a b=decide (a=b):=by
 rw[Bool.eq_iff_iff,Nat.beq_eq];simp
theorem iLt_eq(x y:Int):iLt x y=decide (x<y):=by
 unfold iLt
 split
 ·rw[blt_iff];rw[Bool.eq_iff_iff];simp
 ·rename_i a b;rw[Bool.eq_iff_iff];simp;omega
 ·rename_i a b;rw[Bool.eq_iff_iff];simp;omega
 ·rename_i a b;rw[blt_iff,Bool.eq_iff_iff];simp;omega
theorem iEq_eq(x y:Int):iEq x y=(x==y):=by
 unfold iEq
 split
 ·rename_i a b;rw[beq_iff,Bool.eq_iff_iff];simp only[decide_eq_true_eq,beq_iff_eq];exact⟨fun h=>by rw[h],fun h=>by injection h⟩
 ·rename_i a b;rw[beq_iff,Bool.eq_iff_iff];simp only[decide_eq_true_eq,beq_iff_eq];exact⟨fun h=>by rw[h],fun h=>by injection h⟩
 ·rename_i h1 h2
  cases x<;>cases y<;>first
   |(rename_i a b;exact absurd rfl (h1 a b rfl))
   |(rename_i a b;exact absurd rfl (h2 a b rfl))
   |(rename_i a b;symm;rw[beq_eq_false_iff_ne];intro hh;cases hh)
def fw(k:IntKind)(n:Int):Int:=match n with
 | .ofNat m=>cond (Nat.blt m (match k with| .i8=>128| .u8=>256| .i16=>32768| .u16=>65536| .i32=>2147483648| .u32=>4294967296| .i64=>9223372036854775808| .u64=>18446744073709551616)) (.ofNat m) (k.wrap (.ofNat m))
 | .negSucc m=>cond (Nat.blt m (match k with| .i8=>128| .i16=>32768| .i32=>2147483648| .i64=>9223372036854775808|_=>0)) (.negSucc m) (k.wrap (.negSucc m))
theorem wrap_in(k:IntKind)(n:Int)(h:match k with| .i8=>-128<=n∧n<=127| .u8=>0<=n∧n<=255| .i16=>-32768<=n∧n<=32767| .u16=>0<=n∧n<=65535| .i32=>-2147483648<=n∧n<=2147483647| .u32=>0<=n∧n<=4294967295| .i64=>-9223372036854775808<=n∧n<=9223372036854775807| .u64=>0<=n∧n<=18446744073709551615):k.wrap n=n:=by
 cases k
 ·exact IntWalk.i8_in n h
 ·exact IntWalk.i16_in n h
 ·exact IntWalk.i32_in n h
 ·exact IntWalk.i64_in n h
 ·exact IntWalk.u8_in n h
 ·exact IntWalk.u16_in n h
 ·exact IntWalk.u32_in n h
 ·exact IntWalk.u64_in n h
theorem fw_eq(k:IntKind)(n:Int):fw k n=k.wrap n:=by
 unfold fw
 split
 ·rename_i m
  cases h:Nat.blt m _
  ·rfl
  ·rw[blt_iff,decide_eq_true_eq]at h
   show(m:Int)=k.wrap (m:Int)
   refine(wrap_in k _ ?_).symm
   cases k<;>(dsimp only at h⊢;omega)
 ·rename_i m
  cases h:Nat.blt m _
  ·rfl
  ·rw[blt_iff,decide_eq_true_eq]at h
   show Int.negSucc m=k.wrap (Int.negSucc m)
   refine(wrap_in k _ ?_).symm
   cases k<;>(dsimp only at h⊢;omega)
def evInt(op:BinOp)(k:IntKind)(x y:Int):Option AV:=match op with
 | .add=>some (.int k (fw k (Int.add x y)))
 | .sub=>some (.int k (fw k (Int.sub x y)))
 | .mul=>some (.int k (fw k (Int.mul x y)))
 | .quo=>cond (iEq y 0) none (some (.int k (fw k (Int.tdiv x y))))
 | .rem=>cond (iEq y 0) none (some (.int k (Int.tmod x y)))
 | .and=>some (.int k (fw k (BitVec.ofInt k.bits x&&&BitVec.ofInt k.bits y).toNat))
 | .or=>some (.int k (fw k (BitVec.ofInt k.bits x|||BitVec.ofInt k.bits y).toNat))
 | .xor=>some (.int k (fw k (BitVec.ofInt k.bits x^^^BitVec.ofInt k.bits y).toNat))
 | .andNot=>some (.int k (fw k (BitVec.ofInt k.bits x&&&~~~BitVec.ofInt k.bits y).toNat))
 | .eql=>some (.bool (iEq x y))
 | .neq=>some (.bool (!iEq x y))
 | .lss=>some (.bool (iLt x y))
 | .leq=>some (.bool (!iLt y x))
 | .gtr=>some (.bool (iLt y x))
 | .geq=>some (.bool (!iLt x y))
 |_=>none
theorem evInt_sound{P:Program}{op:BinOp}{k:IntKind}{x y:Int}{v:AV}(h:evInt op k x y=some v){ρ:Rho}:∃V,VR ρ v V∧one V=true∧∀t w,(binOp op t (.int k x) (.int k y)).run P w=.ok V w:=by
 unfold evInt at h
 have hle:∀a b:Int,(!decide (b<a))=decide (a<=b):=fun a b=>by rw[Bool.eq_iff_iff];simp
 cases op<;>simp only[fw_eq,iEq_eq,iLt_eq,hle]at h
 case quo=>
  cases hy:(y==(0:Int))
  ·rw[hy]at h
   simp at h;subst h
   have:¬y=0:=by simpa using hy
   exact⟨_,rfl,rfl,fun t w=>by simp[binOp,Op.intDiv,this]⟩
  ·rw[hy]at h;simp at h
 case rem=>
  cases hy:(y==(0:Int))
  ·rw[hy]at h
   simp at h;subst h
   have:¬y=0:=by simpa using hy
   exact⟨_,rfl,rfl,fun t w=>by simp[binOp,Op.intDiv,this]⟩
  ·rw[hy]at h;simp at h
 all_goals first
  |(simp at h;done)
  |(simp only[Option.some.injEq]at h;subst h;exact⟨_,rfl,rfl,fun t w=>by simp[binOp,Op.intArith,Op.intBits,Op.intCmp,bne,Int.add_def,Int.mul_def]<;>rfl⟩)
def partA(P:Program)(t:TypeId)(l:List AV)(off:Nat):Option AV:=
 match aggOf P t with
 |some none=>l[off]?
 |some (some n)=>cond (Nat.ble (off+n) l.length) (some (.agg ((l.drop off).take n))) none
 |none=>none
theorem partA_sound{P:Program}{t:TypeId}{l:List AV}{off:Nat}{v:AV}(h:partA P t l off=some v){ρ:Rho}{L:List Value}(hl:VRs ρ l L):
 ∃V,VR ρ v V∧∀w,(part t L.toArray off).run P w=.ok V w:=by
 unfold partA at h
 split at h
 ·rename_i ha
  obtain⟨V,h1,h2⟩:=hl.get h
  exact⟨V,h2,fun w=>by simp[part,run_isAgg ha,h1]⟩
 ·rename_i n ha
  cases hc:Nat.ble (off+n) l.length
  ·rw[hc]at h;simp at h
  ·rw[hc]at h
   simp at h;subst h
   refine⟨.agg ((L.drop off).take n).toArray,⟨_,(hl.drop off).take n,rfl⟩,fun w=>?_⟩
   simp only[part,Sem.run_bind,run_isAgg ha,Result.andThen_ok,Option.isSome,if_true,run_sizeOf (aggOf_size ha),Sem.run_pure]
   simp[List.extract_eq_take_drop]
 ·simp at h
def bsEq:List UInt8->List UInt8->Bool
 | [],[]=>true
 |a::l,b::m=>match Nat.beq a.toNat b.toNat with
  |true=>bsEq l m
  |false=>false
 |_,_=>false
def strEq(x y:ByteArray):Bool:=bsEq x.data.toList y.data.toList
theorem bsEq_eq:∀l m:List UInt8,bsEq l m=(l==m)
 | [],[]=>rfl
 | [],_::_=>rfl
 |_::_,[]=>rfl
 |a::l,b::m=>by
  unfold bsEq
  rw[List.cons_beq_cons,←bsEq_eq l m]
  by_cases h:a=b
  ·subst h;simp
  ·have hn:¬a.toNat=b.toNat:=fun e=>h (UInt8.toNat_inj.1 e)
   have hb:Nat.beq a.toNat b.toNat=false:=by
        cases hh:Nat.beq a.toNat b.toNat
        ·rfl
        ·exact absurd (Nat.eq_of_beq_eq_true hh) hn
   simp[hb,h]
theorem strEq_toList(x y:ByteArray):strEq x y=(x.toList==y.toList):=by
 unfold strEq
 rw[bsEq_eq,ByteArray.toList_eq,ByteArray.toList_eq]
theorem strEq_eq(x y:ByteArray):strEq x y=(x==y):=by rw[strEq_toList,beq_toListBytes]
def eqFs(rec:TypeId->AV->AV->Option Bool)(P:Program)(xs ys:List AV):List Field->Option Bool
 | []=>some true
 |f::fs=>cond (decide (f.name≠ "_"))
   (match partA P f.type xs f.offset,partA P f.type ys f.offset with
    |some a,some b=>match rec f.type a b with
     |some true=>eqFs rec P xs ys fs
     |some false=>some false
     |none=>none
    |_,_=>none)
   (eqFs rec P xs ys fs)
def eqIs(rec:TypeId->AV->AV->Option Bool)(P:Program)(e:TypeId)(c:Nat)(xs ys:List AV):List Nat->Option Bool
 | []=>some true
 |i::is=>match partA P e xs (i*c),partA P e ys (i*c)with
    |some a,some b=>match rec e a b with
     |some true=>eqIs rec P e c xs ys is
     |some false=>some false
     |none=>none
    |_,_=>none
def eqA(P:Program):Nat->TypeId->AV->AV->Option Bool
 |0,_,_,_=>none
 |d+1,t,x,y=>match P.underlying t with
  |some .bool=>match x,y with| .bool a,.bool b=>some (a==b)|_,_=>none
  |some (.int _)=>match x,y with| .int k a,.int k' b=>cond (decide (k=k')) (some (iEq a b)) none|_,_=>none
  |some .string=>match x,y with| .str a,.str b=>some (strEq a b)|_,_=>none
  |some (.struct fs)=>match x,y with| .agg xs,.agg ys=>cond (P.stoodInHeld t) none (eqFs (eqA P d) P xs ys fs.toList)|_,_=>none
  |some (.array n e)=>match x,y with
   | .agg xs,.agg ys=>match P.info? e with
     |some _=>eqIs (eqA P d) P e (P.cellsOf e) xs ys (List.range n)
     |none=>none
   |_,_=>none
  |_=>none
theorem eqFs_sound{P:Program}{d:Nat}{rec:TypeId->AV->AV->Option Bool}
 (hrec:∀t a b r,rec t a b=some r->∀(ρ:Rho) (A B:Value),VR ρ a A->VR ρ b B->∀w,(Op.equalIn d t A B).run P w=.ok r w)
 {xs ys:List AV} {ρ:Rho} {XS YS:List Value} (hx:VRs ρ xs XS) (hy:VRs ρ ys YS):∀{fs:List Field} {r:Bool},eqFs rec P xs ys fs=some r->∀w,(Op.eqFields d XS.toArray YS.toArray fs).run P w=.ok r w
 | [],r,h,w=>by simp[eqFs]at h;subst h;simp[Op.eqFields]
 |f::fs,r,h,w=>by
  unfold eqFs at h
  unfold Op.eqFields
  by_cases hn:f.name≠ "_"
  ·rw[if_pos hn]
   rw[decide_eq_true hn,cond_true]at h
   split at h
   ·rename_i a b ha hb
    obtain⟨A,h1,h2⟩:=partA_sound ha hx
    obtain⟨B,h3,h4⟩:=partA_sound hb hy
    split at h
    ·rename_i hr
     have:=hrec _ _ _ _ hr _ _ _ h1 h3 w
     simp only[Sem.run_bind,h2,h4,Result.andThen_ok,this,Bool.not_true,Bool.false_eq_true,if_false]
     exact eqFs_sound hrec hx hy h w
    ·rename_i hr
     simp at h;subst h
     have:=hrec _ _ _ _ hr _ _ _ h1 h3 w
     simp[h2,h4,this]
    ·simp at h
   ·simp at h
  ·rw[if_neg hn]
   rw[decide_eq_false hn]at h
   exact eqFs_sound hrec hx hy h w
theorem eqIs_sound{P:Program}{d:Nat}{rec:TypeId->AV->AV->Option Bool}
 (hrec:∀t a b r,rec t a b=some r->∀(ρ:Rho) (A B:Value),VR ρ a A->VR ρ b B->∀w,(Op.equalIn d t A B).run P w=.ok r w)
 {xs ys:List AV} {ρ:Rho} {XS YS:List Value} (hx:VRs ρ xs XS) (hy:VRs ρ ys YS) {e:TypeId} {c:Nat}:∀{is:List Nat} {r:Bool},eqIs rec P e c xs ys is=some r->∀w,(Op.eqItems d e c XS.toArray YS.toArray is).run P w=.ok r w
 | [],r,h,w=>by simp[eqIs]at h;subst h;simp[Op.eqItems]
 |i::is,r,h,w=>by
  unfold eqIs at h
  unfold Op.eqItems
  split at h
  ·rename_i a b ha hb
   obtain⟨A,h1,h2⟩:=partA_sound ha hx
   obtain⟨B,h3,h4⟩:=partA_sound hb hy
   split at h
   ·rename_i hr
    have:=hrec _ _ _ _ hr _ _ _ h1 h3 w
    simp only[Sem.run_bind,h2,h4,Result.andThen_ok,this,Bool.not_true,Bool.false_eq_true,if_false]
    exact eqIs_sound hrec hx hy h w
   ·rename_i hr
    simp at h;subst h
    have:=hrec _ _ _ _ hr _ _ _ h1 h3 w
    simp[h2,h4,this]
   ·simp at h
  ·simp at h
theorem eqA_sound{P:Program}:∀(d:Nat) (t:TypeId) (a b:AV) (r:Bool),eqA P d t a b=some r->∀(ρ:Rho) (A B:Value),VR ρ a A->VR ρ b B->∀w,(Op.equalIn d t A B).run P w=.ok r w
 |0,t,a,b,r,h=>by simp[eqA]at h
 |d+1,t,a,b,r,h=>by
  intro ρ A B hA hB w
  unfold eqA at h
  split at h
  ·rename_i hu
   split at h
   ·simp only[VR]at hA hB;subst hA hB
    simp at h;subst h
    simp[Op.equalIn,Go.Proofs.YtghmnaojmpjglaaGreatDoor.Eo.run_underlying hu]
   ·simp at h
  ·rename_i hu
   split at h
   ·rename_i k a k' b
    simp only[VR]at hA hB;subst hA hB
    by_cases hk:k=k'
    ·simp[hk]at h;subst h
     simp[Op.equalIn,Go.Proofs.YtghmnaojmpjglaaGreatDoor.Eo.run_underlying hu,hk,iEq_eq]
    ·simp[hk]at h
   ·simp at h
  ·rename_i hu
   split at h
   ·simp only[VR]at hA hB;subst hA hB
    simp at h;subst h
    simp[Op.equalIn,Go.Proofs.YtghmnaojmpjglaaGreatDoor.Eo.run_underlying hu,strEq_eq]
   ·simp at h
  ·rename_i fs hu
   split at h
   ·rename_i xs ys
    simp only[VR]at hA hB
    obtain⟨XS,h1,rfl⟩:=hA
    obtain⟨YS,h2,rfl⟩:=hB
    cases hst:P.stoodInHeld t
    ·rw[hst]at h
     simp only[cond_false]at h
     have hf:P.fieldsOf t=fs:=by simp[Program.fieldsOf,hu]
     rw[run_equalIn_struct w d t _ _ (by rw[hf];exact hu) hst,hf]
     exact eqFs_sound (fun t a b r h=>eqA_sound d t a b r h) h1 h2 h w
    ·rw[hst]at h;simp at h
   ·simp at h
  ·rename_i n e hu
   split at h
   ·rename_i xs ys
    simp only[VR]at hA hB
    obtain⟨XS,h1,rfl⟩:=hA
    obtain⟨YS,h2,rfl⟩:=hB
    split at h
    ·rename_i i hi
     rw[run_equalIn_array w d _ _ hu hi]
     exact eqIs_sound (fun t a b r h=>eqA_sound d t a b r h) h1 h2 h w
    ·simp at h
   ·simp at h
  ·simp at h
def bnd(y:Nat):AV->Option Nat
 | .int _ (.ofNat m)=>cond (Nat.ble m y) (some m) none
 |_=>none
theorem bnd_le{y m:Nat}{a:AV}(h:bnd y a=some m):m<=y:=by
 unfold bnd at h
 split at h
 ·rename_i k m'
  cases hc:Nat.ble m' y
  ·rw[hc]at h;simp at h
  ·rw[hc]at h;simp at h;subst h;exact Nat.le_of_ble_eq_true hc
 ·simp at h
theorem bnd_sound{P:Program}{ρ:Rho}{y z m:Nat}{a:AV}{A:Value}(ha:VR ρ a A)(h:bnd y a=some m)(hz:y<=z)(code:BoundsCode)(w:World):(Instr.sliceBound A z code).run P w=.ok m w:=by
 have hle:=bnd_le h
 unfold bnd at h
 split at h
 ·rename_i k m'
  cases hc:Nat.ble m' y
  ·rw[hc]at h;simp at h
  ·rw[hc]at h;simp at h;subst h
   simp only[VR]at ha;subst ha
   have h1:(0:Int)<=Int.ofNat m'∧Int.ofNat m'<=(z:Int):=by constructor<;>simp<;>omega
   simp only[Instr.sliceBound,Sem.run_bind,asIntOf,Sem.run_pure,Result.andThen_ok,if_pos h1]
   simp
 ·simp at h
def bndo(y d:Nat):Option AV->Option Nat
 |some v=>bnd y v
 |none=>some d
def OVR(ρ:Rho):Option AV->Option Value->Prop
 |none,none=>True
 |some v,some V=>VR ρ v V
 |_,_=>False
theorem bndo_le{y d m:Nat}{a:Option AV}(h:bndo y d a=some m)(hd:d<=y):m<=y:=by
 cases a with
 |some v=>exact bnd_le h
 |none=>simp[bndo]at h;omega
theorem bndo_sound{P:Program}{ρ:Rho}{y z d m:Nat}{a:Option AV}{A:Option Value}(ha:OVR ρ a A)(h:bndo y d a=some m)(hz:y<=z)(code:BoundsCode)(w:World):
 (match A with|some v=>Instr.sliceBound v z code|none=>pure d:Sem Nat).run P w=.ok m w:=by
 cases a with
 |some v=>
  cases A with
  |some V=>exact bnd_sound (ρ:=ρ) ha h hz code w
  |none=>exact False.elim ha
 |none=>
  cases A with
  |some V=>exact False.elim ha
  |none=>simp[bndo]at h;subst h;rfl
def bnds(len:Nat)(cap:Option Nat)(lo hi mx:Option AV):Option (Nat×Nat×Option Nat):=
 match mx with
 |some v=>match bnd (cap.getD len) v with
  |some m=>match hi with
   |some u=>match bnd m u with
    |some h=>match bndo h 0 lo with
     |some l=>some (l,h,some m)
     |none=>none
    |none=>none
   |none=>none
  |none=>none
 |none=>match bndo (cap.getD len) len hi with
  |some h=>match bndo h 0 lo with
   |some l=>some (l,h,cap)
   |none=>none
  |none=>none
theorem bnds_sound{P:Program}{ρ:Rho}{len:Nat}{cap:Option Nat}{lo hi mx:Option AV}{LO HI MX:Option Value}(h1:OVR ρ lo LO)(h2:OVR ρ hi HI)(h3:OVR ρ mx MX){l h:Nat}{m:Option Nat}
 (hb:bnds len cap lo hi mx=some (l,h,m)) {C:Nat} (hC:∀c,cap=some c->c=C) (hlen:len<=C) (s:Bool) (w:World):
 (Instr.sliceBounds s len C LO HI MX).run P w=.ok (l,h,m.getD C) w∧l<=h∧(m=cap∨m.isSome=true)∧(∀x,m=some x->h<=x∧x<=C)∧(cap=none->h<=len)∧(cap=none->∀x,m=some x->x<=len):=by
 have htop:cap.getD len<=C:=by
  cases cap with
  |none=>exact hlen
  |some c=>have:=hC c rfl;simp;omega
 have htop2:len<=cap.getD len:=by
  cases cap with
  |none=>simp
  |some c=>have:=hC c rfl;simp;omega
 have htop3:cap=none->cap.getD len=len:=fun e=>by rw[e];rfl
 unfold bnds at hb
 cases mx with
 |some mv=>
  cases MX with
  |none=>exact False.elim h3
  |some MV=>
   simp only[]at hb
   split at hb
   ·rename_i m' hm
    split at hb
    ·rename_i hv
     cases HI with
     |none=>exact False.elim h2
     |some HV=>
      split at hb
      ·rename_i h' hh
       split at hb
       ·rename_i l' hl
        simp at hb
        obtain⟨rfl,rfl,rfl⟩:=hb
        have e1:=bnd_sound (P:=P) (ρ:=ρ) h3 hm htop (if s then .slice3Acap else .slice3Alen) w
        have e2:=bnd_sound (P:=P) (ρ:=ρ) h2 hh (Nat.le_refl _) .slice3B w
        have k1:=bnd_le hm
        have k2:=bnd_le hh
        have k3:=bndo_le hl (Nat.zero_le _)
        have e3:=bndo_sound (P:=P) h1 hl (Nat.le_refl _) .slice3C w
        refine⟨?_,k3,.inr rfl,fun x hx=>?_,fun hc=>?_,fun hc x hx=>?_⟩
        ·simp only[Instr.sliceBounds,Sem.run_bind,e1,Result.andThen_ok,e2]
         cases LO with
         |none=>simp only[Sem.run_pure]at e3;injection e3 with e3;subst e3;simp
         |some LV=>simp only[]at e3;simp[e3]
        ·simp at hx;omega
        ·have:=htop3 hc;omega
        ·have:=htop3 hc;simp at hx;omega
       ·simp at hb
      ·simp at hb
    ·simp at hb
   ·simp at hb
 |none=>
  cases MX with
  |some MV=>exact False.elim h3
  |none=>
   simp only[]at hb
   split at hb
   ·rename_i h' hh
    split at hb
    ·rename_i l' hl
     simp at hb
     obtain⟨rfl,rfl,rfl⟩:=hb
     have k2:=bndo_le hh htop2
     have k3:=bndo_le hl (Nat.zero_le _)
     have e2:=bndo_sound (P:=P) h2 hh htop (if s then .sliceAcap else .sliceAlen) w
     have e3:=bndo_sound (P:=P) h1 hl (Nat.le_refl _) .sliceB w
     refine⟨?_,k3,.inl rfl,fun x hx=>?_,fun hc=>?_,fun hc x hx=>?_⟩
     ·have hcap:cap.getD C=C:=by
       cases cap with
       |none=>rfl
       |some c=>exact hC c rfl
      simp only[Instr.sliceBounds,Sem.run_bind,Sem.run_pure,Result.andThen_ok]
      cases HI with
      |none=>
       simp only[Sem.run_pure,Result.andThen_ok]at e2⊢
       injection e2 with e2;subst e2
       cases LO with
       |none=>simp only[Sem.run_pure,Result.andThen_ok]at e3⊢;injection e3 with e3;subst e3;simp[hcap]
       |some LV=>simp only[]at e3;simp[e3,hcap]
      |some HV=>
       simp only[]at e2
       cases LO with
       |none=>simp only[Sem.run_pure]at e3;injection e3 with e3;subst e3;simp[e2,hcap]
       |some LV=>simp only[]at e3;simp[e2,e3,hcap]
     ·have:=hC x hx;rw[hx]at k2;simp at k2;omega
     ·have:=htop3 hc;omega
     ·rw[hc]at hx;simp at hx
    ·simp at hb
   ·simp at hb
def evSlc(es:Nat)(x:AV)(lo hi mx:Option AV):Option AV:=match x with
 | .sl a o len es' cap=>cond (Nat.beq es es')
   (match bnds len cap lo hi mx with
    |some (l,h,none)=>some (.sl a (o+l*es) (h-l) es none)
    |some (l,h,some m)=>cond (cap.isSome||Nat.blt 0 len) (some (.sl a (cond (Nat.beq m l) o (o+l*es)) (h-l) es (some (m-l)))) none
    |none=>none) none
 | .nils=>match bnds 0 (some 0) lo hi mx with
   |some _=>some .nils
   |none=>none
 |_=>none
theorem evSlc_sound{P:Program}{t elem:TypeId}{es:Nat}(ht:P.underlying t=some (.slice elem))(hs:sz P elem=some es){ρ:Rho}{x v:AV}{lo hi mx:Option AV}{X:Value}{LO HI MX:Option Value}
 (hx:VR ρ x X) (h1:OVR ρ lo LO) (h2:OVR ρ hi HI) (h3:OVR ρ mx MX) (h:evSlc es x lo hi mx=some v):∃V,VR ρ v V∧∀w,(Instr.sliceAt t X LO HI MX).run P w=.ok V w:=by
 unfold evSlc at h
 split at h
 ·rename_i a o len es' cap
  cases he:Nat.beq es es'
  ·rw[he]at h;simp at h
  ·rw[he,cond_true]at h
   have he':es=es':=Nat.eq_of_beq_eq_true he
   subst he'
   split at h
   ·rename_i l hh hb
    simp at h;subst h
    cases cap with
    |some c=>
     exfalso
     have:=(bnds_sound (P:=P) h1 h2 h3 hb (C:=max c len) (fun c' hc'=>by simp at hc';subst hc';simp only[VR]at hx;obtain⟨_,_,hle,_⟩:=hx;omega) (by omega) true default).2.2.1
     rcases this with hm|hm
     ·simp at hm
     ·simp at hm
    |none=>
     simp only[VR]at hx
     obtain⟨loc,hr,hes,hroom,hX⟩:=hx
     have hlen:len<=(loc.room-o)/es:=by
      rw[Nat.le_div_iff_mul_le hes];omega
     rcases hX with rfl|⟨rfl,x0,rfl⟩
     ·obtain⟨hrun,hlh,hm,_,hhl,_⟩:=bnds_sound (P:=P) h1 h2 h3 hb (C:=(loc.room-o)/es) (fun c hc=>by simp at hc) hlen true default
      have hhle:=hhl rfl
      have hcap:(loc.room-o)/es-l=(loc.room-(o+l*es))/es:=by
         rw[←Nat.sub_sub,Nat.mul_comm l es,Nat.sub_mul_div]
      refine⟨.slice (some (if(loc.room-o)/es=l then⟨loc.blk,loc.off+o,none⟩else⟨loc.blk,loc.off+o+l*es,none⟩)) (hh-l) ((loc.room-o)/es-l),?_,fun w=>?_⟩
      ·simp only[VR]
       have hmul:(hh-l)*es=hh*es-l*es:=Nat.sub_mul _ _ _
       have hle1:l*es<=hh*es:=Nat.mul_le_mul_right _ hlh
       have hle2:hh*es<=len*es:=Nat.mul_le_mul_right _ hhle
       refine⟨loc,hr,hes,by omega,?_⟩
       by_cases hz:(loc.room-o)/es=l
       ·have:hh-l=0:=by omega
        right
        rw[this,if_pos hz]
        exact⟨rfl,⟨loc.blk,loc.off+o,none⟩,by rw[hz];simp⟩
       ·left
        rw[if_neg hz,hcap]
        simp[Nat.add_assoc]
      ·obtain⟨hrun,_⟩:=bnds_sound (P:=P) h1 h2 h3 hb (C:=(loc.room-o)/es) (fun c hc=>by simp at hc) hlen true w
       simp only[Instr.sliceAt,Instr.slice,Sem.run_bind,Go.Proofs.YtghmnaojmpjglaaGreatDoor.Eo.run_underlying ht,Result.andThen_ok,hrun,run_sizeOf hs,Sem.run_pure,Option.getD_none,Option.map_some,addr_add]
       split<;>simp_all
     ·obtain⟨hrun,hlh,hm,_,hhl,_⟩:=bnds_sound (P:=P) h1 h2 h3 hb (C:=0) (fun c hc=>by simp at hc) (Nat.le_refl _) true default
      have hhle:=hhl rfl
      have l0:l=0:=by omega
      have h0:hh=0:=by omega
      subst l0 h0
      refine⟨.slice (some x0) 0 0,?_,fun w=>?_⟩
      ·simp only[VR]
       exact⟨loc,hr,hes,by simp;omega,.inr ⟨by simp,x0,by simp⟩⟩
      ·obtain⟨hrun,_⟩:=bnds_sound (P:=P) h1 h2 h3 hb (C:=0) (fun c hc=>by simp at hc) (Nat.le_refl _) true w
       simp only[Instr.sliceAt,Instr.slice,Sem.run_bind,Go.Proofs.YtghmnaojmpjglaaGreatDoor.Eo.run_underlying ht,Result.andThen_ok,hrun,run_sizeOf hs,Sem.run_pure,Option.getD_none,if_true]
   ·rename_i l hh m hb
    cases hcc:(cap.isSome||Nat.blt 0 len)
    ·rw[hcc]at h;simp at h
    ·rw[hcc,cond_true]at h
     simp only[Option.some.injEq]at h
     have key:∃loc C,ρ a=some loc∧X=.slice (some ⟨loc.blk,loc.off+o,none⟩) len C∧(∀c,cap=some c->c=C)∧len<=C:=by
      cases cap with
      |some c=>
       simp only[VR]at hx
       obtain⟨loc,hr,hle,hX⟩:=hx
       exact⟨loc,c,hr,hX,fun c' hc'=>by simp at hc';exact hc'.symm,hle⟩
      |none=>
       simp only[VR]at hx
       obtain⟨loc,hr,hes,hroom,hX⟩:=hx
       simp[blt_iff]at hcc
       rcases hX with hX|⟨h0,_⟩
       ·exact⟨loc,_,hr,hX,fun c hc=>by simp at hc,by rw[Nat.le_div_iff_mul_le hes];omega⟩
       ·omega
     obtain⟨loc,C,hr,rfl,hC,hlen⟩:=key
     obtain⟨_,hlh,_,hmx,_⟩:=bnds_sound (P:=P) h1 h2 h3 hb hC hlen true default
     have hm2:=hmx m rfl
     refine⟨.slice (some (if m=l then⟨loc.blk,loc.off+o,none⟩else⟨loc.blk,loc.off+o+l*es,none⟩)) (hh-l) (m-l),?_,fun w=>?_⟩
     ·subst h
      simp only[VR]
      refine⟨loc,hr,by omega,?_⟩
      rw[beq_iff]
      by_cases e:m=l<;>simp[e,Nat.add_assoc]
     ·obtain⟨hrun,_⟩:=bnds_sound (P:=P) h1 h2 h3 hb hC hlen true w
      simp only[Instr.sliceAt,Instr.slice,Sem.run_bind,Go.Proofs.YtghmnaojmpjglaaGreatDoor.Eo.run_underlying ht,Result.andThen_ok,hrun,run_sizeOf hs,Sem.run_pure,Option.getD_some,Option.map_some,addr_add]
      split<;>simp_all
   ·simp at h
 ·simp only[VR]at hx;subst hx
  split at h
  ·rename_i b hb
   obtain⟨l,hh,m⟩:=b
   simp at h;subst h
   refine⟨.slice none 0 0,by simp[VR],fun w=>?_⟩
   obtain⟨hrun,hlh,hm,hx,_,_⟩:=bnds_sound (P:=P) h1 h2 h3 hb (C:=0) (fun c hc=>by simpa using hc.symm) (Nat.le_refl _) true w
   have hm0:m.getD 0=0∧hh=0:=by
        rcases hm with rfl|hm
        ·have:=hx 0 rfl;simp;omega
        ·cases m with
         |none=>simp at hm
         |some x=>have:=hx x rfl;simp;omega
   have hl0:l=0:=by omega
   simp only[Instr.sliceAt,Instr.slice,Sem.run_bind,Go.Proofs.YtghmnaojmpjglaaGreatDoor.Eo.run_underlying ht,Result.andThen_ok,hrun,run_sizeOf hs,Sem.run_pure,hm0.1,hm0.2,hl0]
   simp
  ·simp at h
 ·simp at h
def cOpdO:Option Operand->Option (Option Opd)
 |none=>some none
 |some x=>match cOpd x with
  |some y=>some (some y)
  |none=>none
def evoO(tm:T AV):Option Opd->Option (Option AV)
 |none=>some none
 |some x=>match evo tm x with
  |some v=>some (some v)
  |none=>none
theorem evoO_sound{ρ:Rho}{tm:T AV}{a:Act}(ht:TR ρ tm a.tmps){x:Option Operand}{y:Option Opd}{v:Option AV}(hc:cOpdO x=some y)(hv:evoO tm y=some v):OVR ρ v (x.map a.eval):=by
 cases x with
 |none=>simp[cOpdO]at hc;subst hc;simp[evoO]at hv;subst hv;trivial
 |some x=>
  unfold cOpdO at hc
  simp only[]at hc
  split at hc
  ·rename_i z hz
   simp at hc;subst hc
   unfold evoO at hv
   simp only[]at hv
   split at hv
   ·rename_i u hu
    simp at hv;subst hv
    exact evo_sound ht hz hu
   ·simp at hv
  ·simp at hc
inductive POp where
 |mv (x:Opd)
 |pick (c a b:Opd)
 |build (zero:List AV) (ps:List (Nat×Nat×Opd))
 |nilck (x:Opd)
 |bin (op:BinOp) (t:TypeId) (cx cy:Bool) (x y:Opd)
 |un (op:UnOp) (x:Opd)
 |conv (k:IntKind) (x:Opd)
 |convs (x:Opd)
 |mkif (t:TypeId) (x:Opd)
 |mkfn (f:Fn) (fs cs:List Opd)
 |slc (es:Nat) (x:Opd) (lo hi mx:Option Opd)
 |fadr (off:Nat) (x:Opd)
 |fld (t:TypeId) (off:Nat) (x:Opd)
 |iadrS (es:Nat) (x i:Opd)
 |iadrA (len es:Nat) (x i:Opd)
 |idxA (len:Nat) (t:TypeId) (es:Nat) (x i:Opd)
 |extr (x:Opd) (i:Nat)
 |lenv (x:Opd)
 |lens (x:Opd)
 |lenm (x:Opd)
 |mm (isMax:Bool) (x:Opd) (ys:List Opd)
 |capv (x:Opd)
 |tas (t:TypeId) (x:Opd)
def layAt(k:Nat):List AV->List AV->List AV
 | [],zs=>zs
 |c::l,zs=>layAt (k+1) l (zs.set k c)
def oneA:AV->Bool
 | .agg _| .tup _=>false
 |_=>true
def cellsA:AV->Option (List AV)
 | .agg l=>cond (l.all oneA) (some l) none
 | .tup _=>none
 |v=>some [v]
def layAll(tm:T AV):List (Nat×Nat×Opd)->List AV->Option (List AV)
 | [],zs=>some zs
 |(off,size,x)::ps,zs=>match evo tm x with
  |some v=>match cellsA v with
   |some l=>cond (Nat.beq l.length size&&Nat.ble (off+l.length) zs.length) (layAll tm ps (layAt off l zs)) none
   |none=>none
  |none=>none
def evBin(P:Program)(op:BinOp)(t:TypeId)(cx cy:Bool):AV->AV->Option AV
 | .int k x,.int k' y=>match op with
   | .shl=>cond (iLt y 0) none (some (.int k (fw k (Int.mul x (2^(min y.toNat k.bits))))))
   | .shr=>cond (iLt y 0) none (some (.int k (x.fdiv (2^(min y.toNat k.bits)))))
   |_=>cond (decide (k=k')) (evInt op k x y) none
 | .str x,.str y=>match op with
   | .eql=>some (.bool (strEq x y))
   | .neq=>some (.bool (!(strEq x y)))
   | .add=>match Nat.ble (x.data.toList.length+y.data.toList.length) 9223372036854775807 with
     |true=>some (.str ⟨(x.data.toList++y.data.toList).toArray⟩)
     |false=>none
   |_=>none
 | .bool x,.bool y=>match P.underlying t with
   |some .bool=>match op with
    | .eql=>some (.bool (x==y))
    | .neq=>some (.bool (!(x==y)))
    |_=>none
   |_=>none
 | .agg xs,.agg ys=>cond (P.eqGuardType P.depth t) none (match eqA P 10000 t (.agg xs) (.agg ys)with
   |some b=>match op with
    | .eql=>some (.bool b)
    | .neq=>some (.bool (!b))
    |_=>none
   |none=>none)
 |x,y=>match nilEq P t cx cy x y with
  |some b=>match op with
   | .eql=>some (.bool b)
   | .neq=>some (.bool (!b))
   |_=>none
  |none=>none
where
 nilEq (P:Program) (t:TypeId) (cx cy:Bool) (x y:AV):Option Bool:=match P.underlying t with
  |some (.pointer _)=>match x,y with
   | .nilp,.nilp=>some true
   | .nilp,.ptr _ _=>some false
   | .ptr _ _,.nilp=>some false
   |_,_=>none
  |some (.slice _)=>match x,y with
   | .nils,.nils=>some true
   | .nils,.sl _ _ _ _ _=>some false
   | .sl _ _ _ _ _,.nils=>some false
   |_,_=>none
  |some (.map _ _)=>match x,y with
   | .nilm,.nilm=>some true
   | .nilm,.map _=>some false
   | .map _,.nilm=>some false
   |_,_=>none
  |some (.func _ _ _)=>match x,y with
   | .nilf,.nilf=>some true
   | .nilf,.fn _ _ _=>some false
   | .fn _ _ _,.nilf=>some false
   |_,_=>none
  |some (.interface _)=>match x,y with
   | .nili,.nili=>cond (cx||cy) (some true) none
   | .nili,.ifc _ _=>some false
   | .ifc _ _,.nili=>some false
   |_,_=>none
  |_=>none
def evIdx(len:Nat):AV->Option Nat
 | .int _ (.ofNat m)=>cond (Nat.blt m len) (some m) none
 |_=>none
def mmA(isMax:Bool)(a:AV):List AV->Option AV
 | []=>some a
 |b::bs=>match a,b with
  | .int k x,.int _ y=>mmA isMax (.int k (cond isMax (cond (iLt x y) y x) (cond (iLt y x) y x))) bs
  |_,_=>none
def evP_pick(tm:T AV)(c:Opd)(a:Opd)(b:Opd):Option AV:=match evo tm c with
    |some (.bool t)=>cond t (evo tm a) (evo tm b)
    |_=>none
def evP_nilck(tm:T AV)(x:Opd):Option AV:=match evo tm x with
    |some .nilp=>none
    |some .nili=>none
    |some .nilf=>none
    |some (.fn (.func f) fs cs)=>some (.fn (.func f) fs cs)
    |some (.fn _ _ _)=>none
    |some v=>some v
    |none=>none
def evP_bin(P:Program)(tm:T AV)(op:BinOp)(t:TypeId)(cx:Bool)(cy:Bool)(x:Opd)(y:Opd):Option AV:=match evo tm x,evo tm y with
    |some a,some b=>evBin P op t cx cy a b
    |_,_=>none
def evP_un(tm:T AV)(op:UnOp)(x:Opd):Option AV:=match op,evo tm x with
    | .neg,some (.int k n)=>some (.int k (fw k (Int.sub 0 n)))
    | .xor,some (.int k n)=>evInt .xor k (if k.signed then-1 else k.max) n
    | .not,some (.bool b)=>some (.bool (!b))
    |_,_=>none
def evP_conv(tm:T AV)(k:IntKind)(x:Opd):Option AV:=match evo tm x with
    |some (.int _ n)=>some (.int k (fw k n))
    |_=>none
def evP_convs(tm:T AV)(x:Opd):Option AV:=match evo tm x with
    |some (.str s)=>some (.str s)
    |some (.int _ n)=>some (.str (Utf8.encode n))
    |_=>none
def evP_mkif(tm:T AV)(t:TypeId)(x:Opd):Option AV:=match evo tm x with
    |some v=>some (.ifc t v)
    |none=>none
def evP_mkfn(tm:T AV)(f:Fn)(fs:List Opd)(cs:List Opd):Option AV:=match evos tm fs,evos tm cs with
    |some a,some b=>some (.fn f a b)
    |_,_=>none
def evP_slc(tm:T AV)(es:Nat)(x:Opd)(lo:Option Opd)(hi:Option Opd)(mx:Option Opd):Option AV:=match evo tm x,evoO tm lo,evoO tm hi,evoO tm mx with
    |some a,some l,some h,some m=>evSlc es a l h m
    |_,_,_,_=>none
def evP_fadr(tm:T AV)(off:Nat)(x:Opd):Option AV:=match evo tm x with
    |some (.ptr a o)=>some (.ptr a (o+off))
    |_=>none
def evP_fld(P:Program)(tm:T AV)(t:TypeId)(off:Nat)(x:Opd):Option AV:=match evo tm x with
    |some (.agg l)=>partA P t l off
    |_=>none
def evP_iadrS(tm:T AV)(es:Nat)(x:Opd)(i:Opd):Option AV:=match evo tm x,evo tm i with
    |some (.sl a o len es' _),some j=>cond (Nat.beq es es') (match evIdx len j with|some m=>some (.ptr a (o+m*es))|none=>none) none
    |_,_=>none
def evP_iadrA(tm:T AV)(len:Nat)(es:Nat)(x:Opd)(i:Opd):Option AV:=match evo tm x,evo tm i with
    |some (.ptr a o),some j=>match evIdx len j with|some m=>some (.ptr a (o+m*es))|none=>none
    |_,_=>none
def evP_idxA(P:Program)(tm:T AV)(len:Nat)(t:TypeId)(es:Nat)(x:Opd)(i:Opd):Option AV:=match evo tm x,evo tm i with
    |some (.agg l),some j=>match evIdx len j with|some m=>partA P t l (m*es)|none=>none
    |_,_=>none
def evP_extr(tm:T AV)(x:Opd)(i:Nat):Option AV:=match evo tm x with
    |some (.tup l)=>l[i]?
    |_=>none
def evP_lenv(tm:T AV)(x:Opd):Option AV:=match evo tm x with
    |some (.sl _ _ len _ _)=>some (.int .i64 len)
    |some .nils=>some (.int .i64 0)
    |_=>none
def evP_lens(tm:T AV)(x:Opd):Option AV:=match evo tm x with
    |some (.str s)=>some (.int .i64 s.size)
    |_=>none
def evP_lenm(tm:T AV)(x:Opd):Option AV:=match evo tm x with
    |some .nilm=>some (.int .i64 0)
    |_=>none
def evP_mm(tm:T AV)(isMax:Bool)(x:Opd)(ys:List Opd):Option AV:=match evo tm x,evos tm ys with
    |some a,some bs=>mmA isMax a bs
    |_,_=>none
def evP_capv(tm:T AV)(x:Opd):Option AV:=match evo tm x with
    |some (.sl _ _ _ _ (some c))=>some (.int .i64 c)
    |some .nils=>some (.int .i64 0)
    |_=>none
def evP_tas(tm:T AV)(t:TypeId)(x:Opd):Option AV:=match evo tm x with
    |some (.ifc t' v)=>cond (Nat.beq t' t) (some v) none
    |_=>none
def evP(P:Program)(tm:T AV):POp->Option AV
 | .mv x=>evo tm x
 | .pick c a b=>evP_pick tm c a b
 | .build zero ps=>(layAll tm ps zero).map .agg
 | .nilck x=>evP_nilck tm x
 | .bin op t cx cy x y=>evP_bin P tm op t cx cy x y
 | .un op x=>evP_un tm op x
 | .conv k x=>evP_conv tm k x
 | .convs x=>evP_convs tm x
 | .mkif t x=>evP_mkif tm t x
 | .mkfn f fs cs=>evP_mkfn tm f fs cs
 | .slc es x lo hi mx=>evP_slc tm es x lo hi mx
 | .fadr off x=>evP_fadr tm off x
 | .fld t off x=>evP_fld P tm t off x
 | .iadrS es x i=>evP_iadrS tm es x i
 | .iadrA len es x i=>evP_iadrA tm len es x i
 | .idxA len t es x i=>evP_idxA P tm len t es x i
 | .extr x i=>evP_extr tm x i
 | .lenv x=>evP_lenv tm x
 | .lens x=>evP_lens tm x
 | .lenm x=>evP_lenm tm x
 | .mm isMax x ys=>evP_mm tm isMax x ys
 | .capv x=>evP_capv tm x
 | .tas t x=>evP_tas tm t x
def plc(P:Program)(t:TypeId)(i:Nat):Option (Nat×Nat):=
 match P.underlying t with
 |some (.array _ e)=>match sz P e with
  |some n=>some (i*n,n)
  |none=>none
 |some (.struct fs)=>match fs.toList.mapM (fun f=>(P.info? f.type).map fun i=>(f.offset,i.size))with
  |some places=>places.toArray[i]?
  |none=>none
 |_=>none
def canBuild(P:Program)(t:TypeId):Bool:=
 match P.underlying t with
 |some (.array _ e)=>(sz P e).isSome
 |some (.struct fs)=>(fs.toList.mapM (fun f=>(P.info? f.type).map fun i=>(f.offset,i.size))).isSome
 |_=>false
def cParts(pl:Nat->Option (Nat×Nat)):List (Nat×Operand)->Option (List (Nat×Nat×Opd))
 | []=>some []
 |(i,x)::l=>match pl i,cOpd x with
  |some (off,n),some y=>match cParts pl l with
   |some m=>some ((off,n,y)::m)
   |none=>none
  |_,_=>none
def isC:Operand->Bool
 | .const _=>true
 |_=>false
def cP0(P:Program)(o:Oper):Option POp:=match o.op with
 | .move x=>(cOpd x).map .mv
 | .assign x=>(cOpd x).map .mv
 | .pick c a b=>match cOpd c,cOpd a,cOpd b with
   |some c,some a,some b=>some (.pick c a b)
   |_,_,_=>none
 | .build t ps=>match canBuild P t,zcells P t,cParts (plc P t) ps.toList with
   |true,some z,some l=>some (.build z l)
   |_,_,_=>none
 | .nilCheck x=>(cOpd x).map .nilck
 | .binOp op t x y _=>match cOpd x,cOpd y with
   |some a,some b=>some (.bin op t (isC x) (isC y) a b)
   |_,_=>none
 | .unOp op _ x=>(cOpd x).map (.un op)
 | .convert s d x=>match P.underlying s,P.underlying d,cOpd x with
   |some _,some (.int k),some y=>some (.conv k y)
   |some _,some .string,some y=>some (.convs y)
   |_,_,_=>none
 | .makeInterface t x=>match P.underlying t,cOpd x with
   |some (.interface _),_=>none
   |some _,some y=>some (.mkif t y)
   |_,_=>none
 | .makeFunc f fs cs=>match cOpds fs.toList,cOpds cs.toList with
   |some a,some b=>some (.mkfn f a b)
   |_,_=>none
 | .slice t x lo hi mx=>match P.underlying t with
   |some (.slice e)=>match sz P e,cOpd x,cOpdO lo,cOpdO hi,cOpdO mx with
    |some es,some y,some l,some h,some m=>some (.slc es y l h m)
    |_,_,_,_,_=>none
   |_=>none
 | .fieldAddr t x f=>match P.underlying t with
   |some (.struct fs)=>match fs[f]? with
    |some fd=>match sz P fd.type,cOpd x with
     |some (_+1),some y=>some (.fadr fd.offset y)
     |_,_=>none
    |none=>none
   |_=>none
 | .field t x f=>match P.underlying t with
   |some (.struct fs)=>match fs[f]?,cOpd x with
    |some fd,some y=>some (.fld fd.type fd.offset y)
    |_,_=>none
   |_=>none
 | .indexAddr t x i=>match P.underlying t with
   |some (.slice e)=>match sz P e,cOpd x,cOpd i with
    |some es,some y,some j=>some (.iadrS es y j)
    |_,_,_=>none
   |some (.array n e)=>match sz P e,cOpd x,cOpd i with
    |some es,some y,some j=>some (.iadrA n es y j)
    |_,_,_=>none
   |_=>none
 | .index t x i=>match P.underlying t with
   |some (.array n e)=>match sz P e,cOpd x,cOpd i with
    |some es,some y,some j=>some (.idxA n e es y j)
    |_,_,_=>none
   |_=>none
 | .extract x i=>(cOpd x).map fun y=>.extr y i
 | .call {callee:=.builtin .len,args,argTypes}=>match args.toList,argTypes[0]? with
   | [x],some t=>match P.underlying t,cOpd x with
     |some (.slice _),some y=>some (.lenv y)
     |some .string,some y=>some (.lens y)
     |some (.map _ _),some y=>some (.lenm y)
     |_,_=>none
   |_,_=>none
 | .call {callee:=.builtin .max,args,..}=>match args.toList with
   |x::ys=>match cOpd x,cOpds ys with
    |some a,some b=>some (.mm true a b)
    |_,_=>none
   |_=>none
 | .call {callee:=.builtin .min,args,..}=>match args.toList with
   |x::ys=>match cOpd x,cOpds ys with
    |some a,some b=>some (.mm false a b)
    |_,_=>none
   |_=>none
 | .call {callee:=.builtin .cap,args,argTypes}=>match args.toList,argTypes[0]? with
   | [x],some t=>match P.underlying t,cOpd x with
     |some (.slice _),some y=>some (.capv y)
     |_,_=>none
   |_,_=>none
 | .typeAssert x _ t false=>match P.underlying t,cOpd x with
   |some (.interface _),_=>none
   |some _,some y=>some (.tas t y)
   |_,_=>none
 |_=>none
def cPo:Op->Program->Option POp:=fun op=>match op with
 | .move x=>fun P=>(cOpd x).map .mv
 | .assign x=>fun P=>(cOpd x).map .mv
 | .pick c a b=>fun P=>match cOpd c,cOpd a,cOpd b with
   |some c,some a,some b=>some (.pick c a b)
   |_,_,_=>none
 | .build t ps=>fun P=>match canBuild P t,zcells P t,cParts (plc P t) ps.toList with
   |true,some z,some l=>some (.build z l)
   |_,_,_=>none
 | .nilCheck x=>fun P=>(cOpd x).map .nilck
 | .binOp op t x y _=>fun P=>match cOpd x,cOpd y with
   |some a,some b=>some (.bin op t (isC x) (isC y) a b)
   |_,_=>none
 | .unOp op _ x=>fun P=>(cOpd x).map (.un op)
 | .convert s d x=>fun P=>match P.underlying s,P.underlying d,cOpd x with
   |some _,some (.int k),some y=>some (.conv k y)
   |some _,some .string,some y=>some (.convs y)
   |_,_,_=>none
 | .makeInterface t x=>fun P=>match P.underlying t,cOpd x with
   |some (.interface _),_=>none
   |some _,some y=>some (.mkif t y)
   |_,_=>none
 | .makeFunc f fs cs=>fun P=>match cOpds fs.toList,cOpds cs.toList with
   |some a,some b=>some (.mkfn f a b)
   |_,_=>none
 | .slice t x lo hi mx=>fun P=>match P.underlying t with
   |some (.slice e)=>match sz P e,cOpd x,cOpdO lo,cOpdO hi,cOpdO mx with
    |some es,some y,some l,some h,some m=>some (.slc es y l h m)
    |_,_,_,_,_=>none
   |_=>none
 | .fieldAddr t x f=>fun P=>match P.underlying t with
   |some (.struct fs)=>match fs[f]? with
    |some fd=>match sz P fd.type,cOpd x with
     |some (_+1),some y=>some (.fadr fd.offset y)
     |_,_=>none
    |none=>none
   |_=>none
 | .field t x f=>fun P=>match P.underlying t with
   |some (.struct fs)=>match fs[f]?,cOpd x with
    |some fd,some y=>some (.fld fd.type fd.offset y)
    |_,_=>none
   |_=>none
 | .indexAddr t x i=>fun P=>match P.underlying t with
   |some (.slice e)=>match sz P e,cOpd x,cOpd i with
    |some es,some y,some j=>some (.iadrS es y j)
    |_,_,_=>none
   |some (.array n e)=>match sz P e,cOpd x,cOpd i with
    |some es,some y,some j=>some (.iadrA n es y j)
    |_,_,_=>none
   |_=>none
 | .index t x i=>fun P=>match P.underlying t with
   |some (.array n e)=>match sz P e,cOpd x,cOpd i with
    |some es,some y,some j=>some (.idxA n e es y j)
    |_,_,_=>none
   |_=>none
 | .extract x i=>fun P=>(cOpd x).map fun y=>.extr y i
 | .call {callee:=.builtin .len,args,argTypes}=>fun P=>match args.toList,argTypes[0]? with
   | [x],some t=>match P.underlying t,cOpd x with
     |some (.slice _),some y=>some (.lenv y)
     |some .string,some y=>some (.lens y)
     |some (.map _ _),some y=>some (.lenm y)
     |_,_=>none
   |_,_=>none
 | .call {callee:=.builtin .max,args,..}=>fun P=>match args.toList with
   |x::ys=>match cOpd x,cOpds ys with
    |some a,some b=>some (.mm true a b)
    |_,_=>none
   |_=>none
 | .call {callee:=.builtin .min,args,..}=>fun P=>match args.toList with
   |x::ys=>match cOpd x,cOpds ys with
    |some a,some b=>some (.mm false a b)
    |_,_=>none
   |_=>none
 | .call {callee:=.builtin .cap,args,argTypes}=>fun P=>match args.toList,argTypes[0]? with
   | [x],some t=>match P.underlying t,cOpd x with
     |some (.slice _),some y=>some (.capv y)
     |_,_=>none
   |_,_=>none
 | .typeAssert x _ t false=>fun P=>match P.underlying t,cOpd x with
   |some (.interface _),_=>none
   |some _,some y=>some (.tas t y)
   |_,_=>none
 |_=>fun _=>none
def cP(P:Program)(o:Oper):Option POp:=cPo o.op P
theorem cP_def(P:Program)(o:Oper):cP P o=cP0 P o:=by
 unfold cP cP0
 generalize o.op=op
 cases op with
 |call c=>
  obtain⟨callee,args,ats⟩:=c
  cases callee with
  |builtin b=>cases b<;>rfl
  |_=>rfl
 |typeAssert x s t c=>cases c<;>rfl
 |_=>rfl
theorem oneA_one{ρ:Rho}{v:AV}{V:Value}(h:VR ρ v V)(ho:oneA v=true):one V=true:=by
 cases v with
 |agg l=>simp[oneA]at ho
 |tup l=>simp[oneA]at ho
 |sl a o len es cap=>
  cases cap with
  |some c=>simp only[VR]at h;obtain⟨l,_,_,rfl⟩:=h;rfl
  |none=>simp only[VR]at h;obtain⟨l,_,_,_,rfl|⟨_,x,rfl⟩⟩:=h<;>rfl
 |ptr a o=>simp only[VR]at h;obtain⟨l,_,rfl⟩:=h;rfl
 |map a=>simp only[VR]at h;obtain⟨l,_,rfl⟩:=h;rfl
 |yld a=>simp only[VR]at h;obtain⟨l,_,rfl⟩:=h;rfl
 |fn f x y=>simp only[VR]at h;obtain⟨F,C,_,_,rfl⟩:=h;rfl
 |ifc t u=>simp only[VR]at h;obtain⟨U,_,rfl⟩:=h;rfl
 |_=>simp only[VR]at h;subst h;rfl
theorem all_one{ρ:Rho}:∀{l:List AV} {L:List Value},VRs ρ l L->l.all oneA=true->∀V∈L,one V=true
 | [],L,h,_=>by simp only[VRs]at h;subst h;simp
 |v::l,L,h,ha=>by
  simp only[VRs]at h
  obtain⟨V,M,h1,h2,rfl⟩:=h
  simp only[List.all_cons,Bool.and_eq_true]at ha
  intro U hU
  rcases List.mem_cons.1 hU with rfl|hU
  ·exact oneA_one h1 ha.1
  ·exact all_one h2 ha.2 U hU
theorem cells_one{V:Value}(h:one V=true):V.cells= #[V]:=by cases V<;>first|rfl|simp[one]at h
theorem cellsA_sound{ρ:Rho}{v:AV}{V:Value}(h:VR ρ v V){l:List AV}(hl:cellsA v=some l):VRs ρ l V.cells.toList∧∀U∈V.cells.toList,one U=true:=by
 cases v with
 |agg m=>
  simp only[VR]at h
  obtain⟨L,h1,rfl⟩:=h
  cases hm:m.all oneA
  ·simp[cellsA,hm]at hl
  ·simp[cellsA,hm]at hl;subst hl
   exact⟨by simpa [Value.cells]using h1,by simpa [Value.cells]using all_one h1 hm⟩
 |tup m=>simp[cellsA]at hl
 |_=>
  simp only[cellsA,Option.some.injEq]at hl;subst hl
  have ho:=oneA_one h rfl
  rw[cells_one ho]
  exact⟨⟨V,[],h,rfl,rfl⟩,by simpa using ho⟩
theorem layAt_sound{ρ:Rho}:∀{l:List AV} {L:List Value} (k:Nat) {zs:List AV} {Z:Array Value} (off:Nat),VRs ρ l L->VRs ρ zs Z.toList->
 VRs ρ (layAt (off+k) l zs) ((L.zipIdx k).foldl (fun cs (x:Value×Nat)=>cs.setIfInBounds (off+x.2) x.1) Z).toList∧((L.zipIdx k).foldl (fun cs (x:Value×Nat)=>cs.setIfInBounds (off+x.2) x.1) Z).size=Z.size
 | [],L,k,zs,Z,off,h,hz=>by simp only[VRs]at h;subst h;exact⟨by simpa [layAt]using hz,rfl⟩
 |v::l,L,k,zs,Z,off,h,hz=>by
  simp only[VRs]at h
  obtain⟨V,M,h1,h2,rfl⟩:=h
  simp only[List.zipIdx_cons,List.foldl_cons,layAt]
  have hz':VRs ρ (zs.set (off+k) v) (Z.setIfInBounds (off+k) V).toList:=by
   simpa using hz.set (off+k) h1
  obtain⟨k1,k2⟩:=layAt_sound (k+1) off h2 hz'
  refine⟨?_,by simpa using k2⟩
  rw[show off+k+1=off+(k+1) by omega]
  exact k1
theorem built_eq{P:Program}{t:TypeId}{parts:List (Nat×Value)}{i:TypeInfo}{z:Value}(hi:P.info? t=some i)(hz:i.zero=some z)(hk:canBuild P t=true):
 P.built t parts=Instr.fill (plc P t) z.cells parts:=by
 unfold canBuild at hk
 unfold Program.built
 split at hk
 ·rename_i n e hu
  simp only[hi,hu]
  cases he:P.info? e with
  |none=>simp[sz,he]at hk
  |some ie=>
   simp only[hz]
   congr 1
   funext j
   simp[plc,hu,sz,he]
 ·rename_i fs hu
  simp only[hi,hu]
  cases hm:fs.toList.mapM (fun f=>(P.info? f.type).map fun i=>(f.offset,i.size))with
  |none=>rw[hm]at hk;simp at hk
  |some places=>
   simp only[hz]
   congr 1
   funext j
   simp[plc,hu,hm]
 ·simp at hk
theorem fill_sound{pl:Nat->Option (Nat×Nat)}{ρ:Rho}{tm:T AV}{a:Act}(ht:TR ρ tm a.tmps):∀{ps:List (Nat×Operand)} {cs:List (Nat×Nat×Opd)} {zs r:List AV} {Z:Array Value},cParts pl ps=some cs->layAll tm cs zs=some r->VRs ρ zs Z.toList->
 ∃R,Instr.fill pl Z (ps.map fun p=>(p.1,a.eval p.2))=some R∧VRs ρ r R.toList
 | [],cs,zs,r,Z,hc,hl,hz=>by
   simp[cParts]at hc;subst hc
   simp[layAll]at hl;subst hl
   exact⟨Z,by simp[Instr.fill],hz⟩
 |(i,x)::ps,cs,zs,r,Z,hc,hl,hz=>by
  unfold cParts at hc
  split at hc
  ·rename_i off n y hp hy
   split at hc
   ·rename_i m hm
    simp at hc;subst hc
    unfold layAll at hl
    split at hl
    ·rename_i v hv
     split at hl
     ·rename_i l hcl
      cases hb:(Nat.beq l.length n&&Nat.ble (off+l.length) zs.length)
      ·rw[hb]at hl;simp at hl
      ·rw[hb,cond_true]at hl
       simp only[Bool.and_eq_true]at hb
       have hn:=Nat.eq_of_beq_eq_true hb.1
       have hle:=Nat.le_of_ble_eq_true hb.2
       have hV:=evo_sound ht hy hv
       obtain⟨k1,k2⟩:=cellsA_sound hV hcl
       have hlen:=k1.length
       have hzl:=hz.length
       simp only[Array.length_toList]at hlen hzl
       obtain⟨j1,j2⟩:=layAt_sound (ρ:=ρ) 0 off k1 hz
       rw[Nat.add_zero]at j1
       obtain⟨R,e1,e2⟩:=fill_sound ht hm hl j1
       refine⟨R,?_,e2⟩
       simp only[List.map_cons,Instr.fill,hp]
       rw[if_neg (by simp;omega)]
       rw[←e1]
       congr 1
       rw[←Array.foldl_toList,Array.toList_zipIdx]
     ·simp at hl
    ·simp at hl
   ·simp at hc
  ·simp at hc
def nq(d:TypeDesc)(X Y:Value):Option Bool:=match d,X,Y with
 | .pointer _,.pointer none,.pointer b=>some b.isNone
 | .pointer _,.pointer (some _),.pointer none=>some false
 | .slice _,.slice none _ _,.slice b _ _=>some b.isNone
 | .slice _,.slice (some _) _ _,.slice none _ _=>some false
 | .map _ _,.map none,.map b=>some b.isNone
 | .map _ _,.map (some _),.map none=>some false
 | .func _ _ _,.nilFunc,.nilFunc=>some true
 | .func _ _ _,.nilFunc,.func _ _ _=>some false
 | .func _ _ _,.func _ _ _,.nilFunc=>some false
 | .interface _,.nilIface,.nilIface=>some true
 | .interface _,.nilIface,.iface _ _=>some false
 | .interface _,.iface _ _,.nilIface=>some false
 |_,_,_=>none
theorem nq_equal{P:Program}{t:TypeId}{d:TypeDesc}(hu:P.underlying t=some d){X Y:Value}{b:Bool}(h:nq d X Y=some b)(w:World):(Op.equal t X Y).run P w=.ok b w:=by
 have ten:Op.maxDepth=9999+1:=rfl
 unfold nq at h
 split at h<;>first
  |(simp at h;done)
  |(simp at h;subst h;unfold Op.equal;rw[ten,Op.equalIn];simp[Go.Proofs.YtghmnaojmpjglaaGreatDoor.Eo.run_underlying hu])
theorem nq_bin{P:Program}{t:TypeId}{d:TypeDesc}(hu:P.underlying t=some d){X Y:Value}{b:Bool}(h:nq d X Y=some b)(w:World):
 (binOp .eql t X Y).run P w=.ok (.bool b) w∧(binOp .neq t X Y).run P w=.ok (.bool (!b)) w:=by
 have he:=nq_equal hu h w
 unfold nq at h
 split at h<;>first
  |(simp at h;done)
  |(refine⟨?_,?_⟩<;>simp[binOp,he])
theorem nq_guard{P:Program}{t:TypeId}{d:TypeDesc}{X Y:Value}{b:Bool}(h:nq d X Y=some b)(ox oy:Operand)(hc:X=.nilIface->Y=.nilIface->(isC ox||isC oy)=true)(op:BinOp)(w:World):
 (eqGuard op t ox oy X Y).run P w=.ok () w:=by
 unfold nq at h
 split at h<;>first
  |(simp at h;done)
  |(cases op<;>simp[eqGuard];done)
  |(have:=hc rfl rfl
    cases op<;>simp[eqGuard]
    all_goals (cases ox<;>cases oy<;>simp[isC]at this⊢))
theorem nilEq_nq{P:Program}{t:TypeId}{x y:AV}{cx cy b:Bool}(h:evBin.nilEq P t cx cy x y=some b){ρ:Rho}{X Y:Value}(hx:VR ρ x X)(hy:VR ρ y Y):
 ∃d,P.underlying t=some d∧nq d X Y=some b∧(X=.nilIface->Y=.nilIface->(cx||cy)=true):=by
 have slv:∀{a o len es:Nat} {cap:Option Nat} {V:Value},VR ρ (.sl a o len es cap) V->∃p n c,V=.slice (some p) n c:=by
  intro a o len es cap V hv
  cases cap with
  |some c=>simp only[VR]at hv;obtain⟨l,_,_,rfl⟩:=hv;exact⟨_,_,_,rfl⟩
  |none=>simp only[VR]at hv;obtain⟨l,_,_,_,rfl|⟨_,x,rfl⟩⟩:=hv<;>exact⟨_,_,_,rfl⟩
 unfold evBin.nilEq at h
 split at h
 ·rename_i e hu
  refine⟨_,hu,?_⟩
  split at h<;>first
   |(simp at h;done)
   |(simp only[VR]at hx hy;simp at h;subst h
     first
      |(subst hx;subst hy;exact⟨rfl,by simp⟩)
      |(subst hx;obtain⟨m,_,rfl⟩:=hy;exact⟨rfl,by simp⟩)
      |(subst hy;obtain⟨m,_,rfl⟩:=hx;exact⟨rfl,by simp⟩))
 ·rename_i e hu
  refine⟨_,hu,?_⟩
  split at h
  ·simp only[VR]at hx hy;simp at h;subst h hx hy;exact⟨rfl,by simp⟩
  ·simp only[VR]at hx;simp at h;subst h hx;obtain⟨p,n,c,rfl⟩:=slv hy;exact⟨rfl,by simp⟩
  ·simp only[VR]at hy;simp at h;subst h hy;obtain⟨p,n,c,rfl⟩:=slv hx;exact⟨rfl,by simp⟩
  ·simp at h
 ·rename_i e hu
  refine⟨_,hu,?_⟩
  split at h<;>first
   |(simp at h;done)
   |(simp only[VR]at hx hy;simp at h;subst h
     first
      |(subst hx;subst hy;exact⟨rfl,by simp⟩)
      |(subst hx;obtain⟨m,_,rfl⟩:=hy;exact⟨rfl,by simp⟩)
      |(subst hy;obtain⟨m,_,rfl⟩:=hx;exact⟨rfl,by simp⟩))
 ·rename_i e hu
  refine⟨_,hu,?_⟩
  split at h<;>first
   |(simp at h;done)
   |(simp only[VR]at hx hy;simp at h;subst h
     first
      |(subst hx;subst hy;exact⟨rfl,by simp⟩)
      |(subst hx;obtain⟨F,C,_,_,rfl⟩:=hy;exact⟨rfl,by simp⟩)
      |(subst hy;obtain⟨F,C,_,_,rfl⟩:=hx;exact⟨rfl,by simp⟩))
 ·rename_i e hu
  refine⟨_,hu,?_⟩
  split at h
  ·simp only[VR]at hx hy;subst hx hy
   cases hc:(cx||cy)
   ·rw[hc]at h;simp at h
   ·rw[hc]at h;simp at h;subst h;exact⟨rfl,fun _ _=>rfl⟩
  ·simp only[VR]at hx hy;simp at h;subst h hx;obtain⟨U,_,rfl⟩:=hy;exact⟨rfl,by simp⟩
  ·simp only[VR]at hx hy;simp at h;subst h hy;obtain⟨U,_,rfl⟩:=hx;exact⟨rfl,by simp⟩
  ·simp at h
 ·simp at h
theorem evBin_sound{P:Program}{op:BinOp}{t:TypeId}{ox oy:Operand}{x y v:AV}(h:evBin P op t (isC ox) (isC oy) x y=some v){ρ:Rho}{X Y:Value}(hx:VR ρ x X)(hy:VR ρ y Y):
 ∃V,VR ρ v V∧∀w,(do eqGuard op t ox oy X Y;binOp op t X Y:Sem Value).run P w=.ok V w:=by
 unfold evBin at h
 split at h
 ·rename_i k a k' b
  simp only[VR]at hx hy;subst hx hy
  have hg:∀w,(eqGuard op t ox oy (.int k a) (.int k' b)).run P w=.ok () w:=fun w=>by cases op<;>simp[eqGuard]
  split at h
  ·rw[iLt_eq]at h
   by_cases hb:b<0
   ·simp[hb]at h
   ·simp only[hb,decide_false,cond_false,Option.some.injEq]at h;subst h
    refine⟨_,rfl,fun w=>?_⟩
    simp only[Sem.run_bind,hg,Result.andThen_ok,binOp,Op.shift,if_neg hb,fw_eq]
    rfl
  ·rw[iLt_eq]at h
   by_cases hb:b<0
   ·simp[hb]at h
   ·simp only[hb,decide_false,cond_false,Option.some.injEq]at h;subst h
    refine⟨_,rfl,fun w=>?_⟩
    simp only[Sem.run_bind,hg,Result.andThen_ok,binOp,Op.shift,if_neg hb]
    rfl
  ·by_cases hk:k=k'
   ·subst hk
    simp at h
    obtain⟨V,h1,_,h2⟩:=evInt_sound (P:=P) h (ρ:=ρ)
    exact⟨V,h1,fun w=>by simp[hg,h2]⟩
   ·simp[hk]at h
 ·rename_i a b
  simp only[VR]at hx hy;subst hx hy
  have hg:∀w,(eqGuard op t ox oy (.string a) (.string b)).run P w=.ok () w:=fun w=>by cases op<;>simp[eqGuard]
  split at h<;>first
   |(simp at h;done)
   |(simp only[Option.some.injEq]at h;subst h;refine⟨_,rfl,fun w=>?_⟩;simp[eqGuard,binOp,Op.stringOp,strEq_toList];done)
   |skip
  split at h
  ·rename_i hle
   have hle:=Nat.le_of_ble_eq_true hle
   simp only[Option.some.injEq]at h;subst h
   refine⟨.string (a++b),?_,fun w=>?_⟩
   ·simp only[VR]
    congr 1
   ·have e63:IntKind.i64.max=9223372036854775807:=by decide+kernel
    have hs:∀s:ByteArray,s.size=s.data.toList.length:=fun s=>by obtain⟨⟨l⟩⟩:=s;rfl
    have hn:¬((a.size+b.size:Nat):Int)>IntKind.i64.max:=by rw[e63,hs,hs];omega
    simp only[Sem.run_bind,hg,Result.andThen_ok,binOp,Op.stringOp,if_neg hn,Sem.run_pure]
  ·simp at h
 ·rename_i a b
  simp only[VR]at hx hy;subst hx hy
  split at h
  ·rename_i hu
   have hg:∀w,(eqGuard op t ox oy (.bool a) (.bool b)).run P w=.ok () w:=fun w=>by cases op<;>simp[eqGuard]
   have he:∀w,(Op.equal t (.bool a) (.bool b)).run P w=.ok (a==b) w:=fun w=>by
        have ten:Op.maxDepth=9999+1:=rfl
        unfold Op.equal;rw[ten,Op.equalIn];simp[Go.Proofs.YtghmnaojmpjglaaGreatDoor.Eo.run_underlying hu]
   split at h<;>first
        |(simp at h;done)
        |(simp only[Option.some.injEq]at h;subst h;refine⟨_,rfl,fun w=>?_⟩;simp[eqGuard,binOp,he])
  ·simp at h
 ·rename_i xs ys
  cases hq:P.eqGuardType P.depth t
  ·rw[hq,cond_false]at h
   split at h
   ·rename_i b hb
    have hx':=hx;have hy':=hy
    simp only[VR]at hx' hy'
    obtain⟨XS,_,rfl⟩:=hx'
    obtain⟨YS,_,rfl⟩:=hy'
    have he:∀w,(Op.equal t (.agg XS.toArray) (.agg YS.toArray)).run P w=.ok b w:=fun w=>eqA_sound 10000 t _ _ b hb ρ _ _ hx hy w
    have hg:∀w,(eqGuard op t ox oy (.agg XS.toArray) (.agg YS.toArray)).run P w=.ok () w:=fun w=>run_eqGuard_agg w op t ox oy _ _ hq
    split at h<;>first
      |(simp at h;done)
      |(simp only[Option.some.injEq]at h;subst h;refine⟨_,rfl,fun w=>?_⟩;rw[Sem.run_bind,hg,Result.andThen_ok];simp[binOp,he])
   ·simp at h
  ·rw[hq]at h;simp at h
 ·split at h
  ·rename_i b hb
   obtain⟨d,hu,hn,hc⟩:=nilEq_nq hb hx hy
   have hg:=fun w=>nq_guard (P:=P) (t:=t) hn ox oy hc op w
   have hbn:=fun w=>nq_bin hu hn w
   split at h<;>first
        |(simp at h;done)
        |(simp only[Option.some.injEq]at h;subst h;refine⟨_,rfl,fun w=>?_⟩;simp[hg,(hbn w).1,(hbn w).2])
  ·simp at h
end
end Go.Proofs.YtghmnaojmpjglaaGreatDoor.Eo
