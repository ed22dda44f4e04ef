/-
  What functions of the program compute, one by one. Conditions: those of each theorem.
-/
import Derived.Test.YtghmnaojmpjglaaGreatDoorEoE
set_option linter.all false
namespace Go.Proofs.YtghmnaojmpjglaaGreatDoor.PR
open Go.Proofs.YtghmnaojmpjglaaGreatDoor.Eo
noncomputable section
abbrev SQs:=List SQ
abbrev DQs:=List (List DQ×Option DQ)
@[go_sem]def iz:AV:=.int .i64 0
@[go_sem]def uz:AV:=.int .u64 0
@[go_sem]def bz:AV:=.int .u8 0
@[go_sem]def fz:AV:=.bool false
@[go_sem]def Rq(a:List SQ):CC:=.seq (.ops a) .ret
@[go_sem]def Kq(n:Nat)(a:List SQ)(b:CC):CC:=.cond (.t n) (.seq (.ops a) .ret) b
@[go_sem]def Sq(a:List SQ)(b:CC):CC:=.seq (.ops a) b
@[go_sem]def Qq(a b:CC):CC:=.seq a b
@[go_sem]def Oq(a:List SQ):CC:=.ops a
@[go_sem]def Cq(n:Nat)(a b:CC):CC:=.cond (.t n) a b
@[go_sem]def a(x0 x1:Nat):SQ:=⟨some x0,none,.p (.mv (.t x1))⟩
@[go_sem]def b(x0:Nat)(x1:Int):SQ:=⟨some x0,none,.p (.mv (.c (.int .i64 x1)))⟩
@[go_sem]def d(x0 x1 x2:Nat):SQ:=⟨some x0,none,.p (.fadr x1 (.t x2))⟩
@[go_sem]def g(x0 x1:Nat):DQ:=⟨x0,[(x1,none)],none,.p (.mv (.t x1))⟩
@[go_sem]def i(x0 x1:Nat):SQ:=⟨some x0,none,.r (.ld none (.t x1))⟩
@[go_sem]def j(x0 x1 x2 x3:Nat):DQ:=⟨x0,[(x1,(some x2))],none,.p (.fadr x3 (.t x1))⟩
@[go_sem]def k(x0 x1 x2:Nat):DQ:=⟨x0,[(x1,(some x2))],none,.r (.ld none (.t x1))⟩
@[go_sem]def m(x0 x1:Nat):SQ:=⟨some x0,none,.p (.nilck (.t x1))⟩
@[go_sem]def n(x0 x1 x2:Nat):DQ:=⟨x0,[(x1,(some x2))],none,.p (.nilck (.t x1))⟩
@[go_sem]def o(x0 x1 x2:Nat):SQ:=⟨some x0,none,.p (.extr (.t x1) x2)⟩
@[go_sem]def p(x0:Nat):SQ:=⟨some x0,none,.p (.mv (.c .nilp))⟩
@[go_sem]def q(x0 x1 x2:Nat):SQ:=⟨some x0,none,.cv (.c (.fn (.func x1) [] [])) [(.t x2)]⟩
@[go_sem]def r(x0 x1 x2:Nat):SQ:=⟨some x0,none,.p (.pick (.t x1) (.c (.bool true)) (.t x2))⟩
@[go_sem]def s(x0 x1 x2:Nat):SQ:=⟨some x0,some (x1,false),.p (.mv (.t x2))⟩
@[go_sem]def t(x0 x1 x2:Nat):SQ:=⟨none,none,.e (.st x0 (.t x1) (.t x2))⟩
@[go_sem]def u(x0 x1 x2:Nat):SQ:=⟨some x0,none,.p (.bin .eql x1 false true (.t x2) (.c .nilp))⟩
@[go_sem]def v(x0:Nat)(x1:Int):SQ:=⟨some x0,none,.p (.mv (.c (.int .u8 x1)))⟩
@[go_sem]def w(x0 x1 x2:Nat):SQ:=⟨some x0,none,.n (.box x1 (.t x2))⟩
@[go_sem]def y(x0 x1 x2:Nat):DQ:=⟨x0,[(x1,(some x2))],none,.p (.mv (.t x1))⟩
@[go_sem]def z(x0 x1 x2:Nat)(x3:Int):SQ:=⟨some x0,none,.p (.bin .neq x1 false true (.t x2) (.c (.int .i64 x3)))⟩
@[go_sem]def A(x0 x1:Nat):SQ:=⟨some x0,none,.p (.lenv (.t x1))⟩
@[go_sem]def B(x0 x1 x2:Nat):SQ:=⟨some x0,some (x1,true),.p (.mv (.t x2))⟩
@[go_sem]def C(x0 x1 x2:Nat)(x3:Int):SQ:=⟨some x0,none,.p (.bin .add x1 false true (.t x2) (.c (.int .i64 x3)))⟩
@[go_sem]def D(x0:Nat):SQ:=⟨some x0,none,.p (.mv (.c .nils))⟩
@[go_sem]def E(x0 x1 x2 x3:Nat):SQ:=⟨some x0,none,.p (.iadrS x1 (.t x2) (.t x3))⟩
@[go_sem]def G(x0:Nat):SQ:=⟨some x0,none,.p (.mv (.c (.bool false)))⟩
@[go_sem]def J(x0 x1 x2:Nat)(x3:Int):SQ:=⟨some x0,none,.p (.bin .eql x1 false true (.t x2) (.c (.int .u8 x3)))⟩
@[go_sem]def K(x0 x1 x2:Nat)(x3:Int):SQ:=⟨some x0,none,.p (.bin .lss x1 false true (.t x2) (.c (.int .i64 x3)))⟩
@[go_sem]def L(x0 x1 x2:Nat):SQ:=⟨some x0,some (x1,false),.r (.ld none (.t x2))⟩
@[go_sem]def M(x0 x1 x2 x3:Nat):SQ:=⟨some x0,some (x1,false),.p (.fadr x2 (.t x3))⟩
@[go_sem]def N(x0 x1 x2 x3:Nat):DQ:=⟨x0,[(x1,(some x2))],none,.p (.extr (.t x1) x3)⟩
@[go_sem]def O(x0 x1 x2:Nat):SQ:=⟨some x0,none,.p (.pick (.t x1) (.t x2) (.c (.bool false)))⟩
@[go_sem]def Q(x0 x1 x2 x3 x4 x5:Nat):DQ:=⟨x0,[(x1,(some x2)),(x3,(some x4))],none,.p (.iadrS x5 (.t x1) (.t x3))⟩
@[go_sem]def R(x0 x1 x2 x3 x4 x5:Nat):DQ:=⟨x0,[(x1,(some x2)),(x3,(some x4))],none,.e (.st x5 (.t x1) (.t x3))⟩
@[go_sem]def S(x0 x1 x2:Nat):DQ:=⟨x0,[(x1,none)],none,.p (.fadr x2 (.t x1))⟩
@[go_sem]def U(x0 x1 x2:Nat)(x3:Int):SQ:=⟨some x0,none,.p (.bin .eql x1 false true (.t x2) (.c (.int .i64 x3)))⟩
@[go_sem]def V(x0 x1 x2:Nat):SQ:=⟨some x0,none,.r (.ld (some x1) (.t x2))⟩
@[go_sem]def W(x0 x1 x2 x3:Nat):SQ:=⟨some x0,some (x1,true),.p (.fadr x2 (.t x3))⟩
@[go_sem]def Y(x0 x1 x2:Nat):SQ:=⟨some x0,some (x1,true),.r (.ld none (.t x2))⟩
@[go_sem]def Z(x0 x1 x2 x3:Nat):SQ:=⟨some x0,none,.cv (.c (.fn (.func x1) [] [])) [(.t x2),(.t x3)]⟩
@[go_sem]def qa(x0 x1 x2 x3 x4:Nat):SQ:=⟨some x0,none,.cv (.c (.fn (.func x1) [] [])) [(.t x2),(.t x3),(.t x4)]⟩
@[go_sem]def qb(x0 x1 x2 x3:Nat):SQ:=⟨some x0,none,.p (.bin .lss x1 false false (.t x2) (.t x3))⟩
@[go_sem]def qc(x0 x1 x2 x3:Nat)(x4:Int):SQ:=⟨some x0,some (x1,false),.p (.bin .gtr x2 false true (.t x3) (.c (.int .i64 x4)))⟩
@[go_sem]def qd(x0 x1:Nat):DQ:=⟨x0,[(x1,none)],none,.r (.ld none (.t x1))⟩
@[go_sem]def qe(x0 x1:Nat):SQ:=⟨some x0,none,.p (.un .not (.t x1))⟩
@[go_sem]def qf(x0 x1 x2 x3:Nat):SQ:=⟨some x0,none,.p (.bin .add x1 false false (.t x2) (.t x3))⟩
@[go_sem]def qg(x0 x1 x2 x3:Nat):DQ:=⟨x0,[(x1,(some x2))],none,.cv (.c (.fn (.func x3) [] [])) [(.t x1)]⟩
@[go_sem]def qh(x0 x1 x2 x3 x4 x5:Nat):DQ:=⟨x0,[(x1,(some x2)),(x3,(some x4))],some (x5,true),.r (.ld none (.t x3))⟩
@[go_sem]def qi(x0 x1 x2:Nat):SQ:=⟨some x0,some (x1,false),.p (.nilck (.t x2))⟩
@[go_sem]def qj(x0 x1 x2 x3 x4 x5:Nat):SQ:=⟨some x0,none,.e (.app x1 x2 x3 (.t x4) (.t x5))⟩
@[go_sem]def qk(x0:Nat)(x1:Int):SQ:=⟨some x0,none,.p (.mv (.c (.int .u64 x1)))⟩
@[go_sem]def ql(x0 x1 x2:Nat):SQ:=⟨some x0,some (x1,true),.p (.lenv (.t x2))⟩
@[go_sem]def qm(x0 x1 x2:Nat):SQ:=⟨some x0,some (x1,true),.p (.nilck (.t x2))⟩
@[go_sem]def qn(x0 x1 x2 x3:Nat)(x4:Int):SQ:=⟨some x0,some (x1,false),.p (.bin .geq x2 false true (.t x3) (.c (.int .i64 x4)))⟩
@[go_sem]def qo(x0 x1 x2:Nat)(x3:Int):SQ:=⟨some x0,none,.p (.bin .sub x1 false true (.t x2) (.c (.int .i64 x3)))⟩
@[go_sem]def qp(x0 x1 x2 x3 x4 x5 x6 x7 x8 x9:Nat):DQ:=⟨x0,[(x1,(some x2)),(x3,(some x4)),(x5,(some x6)),(x7,(some x8))],none,.cv (.c (.fn (.func x9) [] [])) [(.t x1),(.t x3),(.t x5),(.t x7)]⟩
@[go_sem]def qq(x0 x1:Nat)(x2:Int)(x3:Nat):SQ:=⟨some x0,none,.p (.bin .mul x1 true false (.c (.int .i64 x2)) (.t x3))⟩
@[go_sem]def qr(x0 x1 x2:Nat):SQ:=⟨some x0,none,.p (.bin .neq x1 false true (.t x2) (.c .nilp))⟩
@[go_sem]def qs(x0 x1 x2 x3 x4:Nat):SQ:=⟨some x0,none,.p (.iadrA x1 x2 (.t x3) (.t x4))⟩
@[go_sem]def qt(x0 x1 x2:Nat):SQ:=⟨some x0,none,.p (.mkif x1 (.t x2))⟩
@[go_sem]def qu(x0 x1 x2 x3:Nat)(x4:Int)(x5 x6 x7:Nat):SQ:=⟨some x0,none,.n (.buildS x1 x2 x3 [.int .i64 x4] [(x5,x6,(.t x7))])⟩
@[go_sem]def qv(x0 x1 x2 x3 x4 x5:Nat):SQ:=⟨some x0,none,.cv (.c (.fn (.func x1) [] [])) [(.t x2),(.t x3),(.t x4),(.t x5)]⟩
@[go_sem]def qw(x0 x1 x2 x3 x4:Nat):SQ:=⟨some x0,some (x1,false),.p (.bin .geq x2 false false (.t x3) (.t x4))⟩
@[go_sem]def qx(x0:Nat):SQ:=⟨some x0,none,.p (.mv (.c (.bool true)))⟩
@[go_sem]def qy(x0 x1 x2 x3:Nat)(x4:Int):SQ:=⟨some x0,some (x1,true),.p (.bin .lss x2 false true (.t x3) (.c (.int .i64 x4)))⟩
@[go_sem]def qz(x0 x1 x2 x3 x4 x5:Nat):DQ:=⟨x0,[(x1,(some x2)),(x3,(some x4))],none,.p (.bin .add x5 false false (.t x1) (.t x3))⟩
@[go_sem]def qA(x0 x1 x2 x3:Nat):SQ:=⟨some x0,some (x1,false),.p (.bin .eql x2 false true (.t x3) (.c .nilp))⟩
@[go_sem]def qB(x0 x1 x2 x3 x4 x5:Nat):DQ:=⟨x0,[(x1,(some x2)),(x3,none)],some (x4,true),.p (.fadr x5 (.t x3))⟩
@[go_sem]def qC(x0 x1 x2:Nat)(x3:Int):SQ:=⟨some x0,none,.p (.bin .geq x1 false true (.t x2) (.c (.int .i64 x3)))⟩
@[go_sem]def qD(x0 x1 x2 x3:Nat):DQ:=⟨x0,[(x1,(some x2))],none,.r (.ld (some x3) (.t x1))⟩
@[go_sem]def qE(x0 x1:Nat):SQ:=⟨none,none,.e (.st x0 (.t x1) (.c (.bool true)))⟩
@[go_sem]def qF(x0:Nat):SQ:=⟨some x0,none,.p (.mv (.c .nili))⟩
@[go_sem]def qG(x0 x1 x2 x3 x4 x5 x6:Nat):DQ:=⟨x0,[(x1,(some x2)),(x3,(some x4))],some (x5,true),.cv (.c (.fn (.func x6) [] [])) [(.t x3)]⟩
@[go_sem]def qH(x0 x1 x2 x3:Nat):SQ:=⟨some x0,none,.p (.bin .sub x1 false false (.t x2) (.t x3))⟩
@[go_sem]def qI(x0 x1 x2 x3:Nat)(x4:Int):SQ:=⟨some x0,some (x1,false),.p (.bin .lss x2 false true (.t x3) (.c (.int .i64 x4)))⟩
@[go_sem]def qJ(x0 x1 x2 x3:Nat)(x4:Int):DQ:=⟨x0,[(x1,(some x2))],none,.p (.bin .sub x3 false true (.t x1) (.c (.int .i64 x4)))⟩
@[go_sem]def qK(x0 x1 x2 x3:Nat):SQ:=⟨some x0,none,.p (.bin .neq x1 false false (.t x2) (.t x3))⟩
@[go_sem]def qL(x0 x1 x2 x3 x4 x5 x6 x7:Nat):DQ:=⟨x0,[(x1,(some x2)),(x3,(some x4)),(x5,(some x6))],none,.cv (.c (.fn (.func x7) [] [])) [(.t x1),(.t x3),(.t x5)]⟩
@[go_sem]def qM(x0 x1:Nat)(x2:Int)(x3:Nat):SQ:=⟨none,none,.m (.upd x0 (.t x1) (.c (.int .u8 x2)) (.c (.fn (.func x3) [] [])))⟩
@[go_sem]def qN(x0 x1 x2 x3 x4:Nat):DQ:=⟨x0,[(x1,(some x2)),(x3,none)],some (x4,true),.p (.mv (.t x3))⟩
@[go_sem]def qO(x0 x1 x2:Nat):SQ:=⟨some x0,some (x1,false),.p (.lenv (.t x2))⟩
@[go_sem]def qP(x0 x1 x2 x3:Nat)(x4:Int):SQ:=⟨some x0,some (x1,true),.p (.bin .eql x2 false true (.t x3) (.c (.int .i64 x4)))⟩
@[go_sem]def qQ(x0 x1 x2 x3 x4 x5 x6 x7:Nat):DQ:=⟨x0,[(x1,(some x2)),(x3,(some x4))],none,.e (.app x5 x6 x7 (.t x1) (.t x3))⟩
@[go_sem]def qR(x0 x1 x2 x3:Nat)(x4:Int):DQ:=⟨x0,[(x1,(some x2))],none,.p (.bin .add x3 true false (.c (.int .i64 x4)) (.t x1))⟩
@[go_sem]def qS(x0 x1 x2 x3 x4:Nat):SQ:=⟨some x0,some (x1,true),.p (.bin .lss x2 false false (.t x3) (.t x4))⟩
@[go_sem]def qT(x0 x1 x2:Nat)(x3:Int):SQ:=⟨some x0,none,.cv (.c (.fn (.func x1) [] [])) [(.t x2),(.c (.int .i64 x3))]⟩
@[go_sem]def qU(x0 x1 x2 x3 x4 x5 x6 x7 x8:Nat):DQ:=⟨x0,[(x1,(some x2)),(x3,(some x4)),(x5,(some x6))],some (x7,true),.cv (.c (.fn (.func x8) [] [])) [(.t x3),(.t x5)]⟩
@[go_sem]def qV(x0 x1 x2 x3 x4:Nat):DQ:=⟨x0,[(x1,(some x2)),(x3,(some x4))],none,.p (.pick (.t x1) (.t x3) (.c (.bool false)))⟩
@[go_sem]def qW(x0 x1 x2 x3:Nat)(x4:Int):DQ:=⟨x0,[(x1,(some x2))],none,.cv (.c (.fn (.func x3) [] [])) [(.t x1),(.c (.int .i64 x4))]⟩
@[go_sem]def qX(x0 x1:Nat):SQ:=⟨some x0,none,.p (.conv .u64 (.t x1))⟩
@[go_sem]def qY(x0 x1 x2 x3:Nat)(x4:Int):DQ:=⟨x0,[(x1,(some x2))],none,.p (.bin .add x3 false true (.t x1) (.c (.int .i64 x4)))⟩
@[go_sem]def qZ(x0 x1 x2 x3 x4 x5 x6 x7 x8 x9 x10 x11:Nat):DQ:=⟨x0,[(x1,(some x2)),(x3,(some x4)),(x5,(some x6)),(x7,(some x8)),(x9,(some x10))],none,.cv (.c (.fn (.func x11) [] [])) [(.t x1),(.t x3),(.t x5),(.t x7),(.t x9)]⟩
@[go_sem]def q0(x0 x1 x2 x3 x4 x5:Nat):DQ:=⟨x0,[(x1,(some x2)),(x3,(some x4))],none,.p (.bin .neq x5 false false (.t x1) (.t x3))⟩
@[go_sem]def q1(x0 x1 x2 x3 x4 x5:Nat):DQ:=⟨x0,[(x1,(some x2)),(x3,(some x4))],none,.cv (.c (.fn (.func x5) [] [])) [(.t x1),(.t x3)]⟩
@[go_sem]def q2(x0 x1 x2:Nat):SQ:=⟨some x0,some (x1,false),.p (.un .not (.t x2))⟩
@[go_sem]def q3(x0 x1 x2 x3:Nat)(x4:Int):SQ:=⟨some x0,some (x1,false),.p (.bin .gtr x2 false true (.t x3) (.c (.int .u8 x4)))⟩
@[go_sem]def q4(x0 x1 x2 x3:Nat):SQ:=⟨some x0,some (x1,false),.cv (.c (.fn (.func x2) [] [])) [(.t x3)]⟩
@[go_sem]def q5(x0 x1:Nat)(x2 x3 x4 x5 x6 x7 x8 x9 x10 x11 x12 x13 x14 x15 x16:Int):SQ:=⟨some x0,none,.n (.new x1 [.int .i64 x2,.int .i64 x3,.int .u8 x4,.int .i64 x5,.int .u8 x6,.int .i64 x7,.nils,.int .i64 x8,.int .i64 x9,.int .i64 x10,.int .i64 x11,.int .i64 x12,.int .i64 x13,.int .i64 x14,.int .i64 x15,.int .i64 x16])⟩
@[go_sem]def q6(x0 x1 x2 x3 x4:Nat)(x5 x6:Int):DQ:=⟨x0,[(x1,(some x2)),(x3,(some x4))],none,.cv (.t x1) [(.c (.int .u8 x5)),(.t x3),(.c (.int .i64 x6))]⟩
@[go_sem]def q7(x0 x1 x2:Nat):DQ:=⟨x0,[(x1,(some x2))],none,.p (.lenv (.t x1))⟩
@[go_sem]def q8(x0 x1 x2 x3:Nat):DQ:=⟨x0,[(x1,(some x2))],none,.n (.box x3 (.t x1))⟩
@[go_sem]def q9(x0 x1 x2 x3 x4 x5 x6:Nat)(x7:Int):DQ:=⟨x0,[(x1,(some x2)),(x1,(some x3))],none,.n (.mksl x4 x5 x6 [.int .i64 x7] (.t x1) (.t x1))⟩
@[go_sem]def za(x0 x1 x2 x3:Nat)(x4 x5 x6:Int):SQ:=⟨some x0,none,.cv (.c (.fn (.func x1) [] [])) [(.t x2),(.t x3),(.c (.int .u8 x4)),(.c (.int .i64 x5)),(.c (.int .i64 x6))]⟩
@[go_sem]def zb(x0 x1 x2 x3:Nat):SQ:=⟨some x0,none,.p (.bin .rem x1 false false (.t x2) (.t x3))⟩
@[go_sem]def zc(x0 x1 x2:Nat):DQ:=⟨x0,[(x1,(some x2))],none,.p (.conv .u64 (.t x1))⟩
@[go_sem]def zd(x0 x1 x2 x3:Nat):SQ:=⟨some x0,none,.p (.bin .eql x1 false false (.t x2) (.t x3))⟩
@[go_sem]def ze(x0 x1 x2 x3:Nat)(x4:Int)(x5:Nat):SQ:=⟨some x0,none,.n (.mksl x1 x2 x3 [.int .u64 x4] (.t x5) (.t x5))⟩
@[go_sem]def zf(x0 x1 x2 x3:Nat):SQ:=⟨some x0,none,.p (.bin .leq x1 false false (.t x2) (.t x3))⟩
@[go_sem]def zg(x0 x1 x2 x3:Nat)(x4 x5:Int):SQ:=⟨some x0,some (x1,false),.cv (.c (.fn (.func x2) [] [])) [(.t x3),(.c (.int .i64 x4)),(.c (.int .i64 x5))]⟩
@[go_sem]def zh(x0 x1 x2 x3:Nat):SQ:=⟨some x0,none,.n (.buildS x1 x2 x3 [] [])⟩
@[go_sem]def zi(x0:Nat)(x1:Int):DQ:=⟨x0,[],none,.p (.mv (.c (.int .i64 x1)))⟩
@[go_sem]def zj(x0:Nat):SQ:=⟨some x0,none,.n .mkmap⟩
@[go_sem]def zk(x0 x1 x2 x3:Nat):SQ:=⟨some x0,none,.p (.build [.nili] [(x1,x2,(.t x3))])⟩
@[go_sem]def zl(x0 x1 x2:Nat)(x3:Int):SQ:=⟨some x0,none,.p (.bin .add x1 false true (.t x2) (.c (.int .u64 x3)))⟩
@[go_sem]def zm(x0 x1 x2 x3 x4 x5 x6:Nat):DQ:=⟨x0,[(x1,(some x2)),(x3,(some x4))],none,.p (.iadrA x5 x6 (.t x1) (.t x3))⟩
@[go_sem]def zn(x0 x1 x2 x3 x4:Nat):SQ:=⟨some x0,none,.ci (.t x1) "Enter" [(.t x2),(.t x3),(.t x4)]⟩
@[go_sem]def zo(x0 x1 x2 x3 x4 x5 x6 x7:Nat)(x8:Int):DQ:=⟨x0,[(x1,(some x2)),(x3,(some x4)),(x5,(some x6))],none,.cv (.c (.fn (.func x7) [] [])) [(.t x1),(.t x3),(.c (.int .u8 x8)),(.t x5)]⟩
@[go_sem]def zp(x0 x1:Nat)(x2:Int):SQ:=⟨none,none,.e (.st x0 (.t x1) (.c (.int .u8 x2)))⟩
@[go_sem]def zq(x0 x1 x2:Nat)(x3:Int):SQ:=⟨some x0,none,.p (.bin .geq x1 false true (.t x2) (.c (.int .u64 x3)))⟩
@[go_sem]def zr(x0 x1:Nat):SQ:=⟨some x0,none,.p (.conv .i64 (.t x1))⟩
@[go_sem]def zs(x0 x1 x2 x3 x4 x5 x6 x7 x8:Nat):DQ:=⟨x0,[(x1,(some x2)),(x3,(some x4)),(x5,(some x6))],some (x7,true),.p (.iadrS x8 (.t x3) (.t x5))⟩
@[go_sem]def zt(x0 x1 x2 x3 x4 x5:Nat):DQ:=⟨x0,[(x1,(some x2)),(x3,(some x4))],some (x5,true),.p (.nilck (.t x3))⟩
@[go_sem]def zu(x0 x1 x2 x3 x4 x5 x6:Nat):DQ:=⟨x0,[(x1,(some x2)),(x3,(some x4))],some (x5,true),.p (.fadr x6 (.t x3))⟩
@[go_sem]def zv(x0 x1 x2:Nat)(x3:Int):SQ:=⟨some x0,none,.p (.bin .gtr x1 false true (.t x2) (.c (.int .i64 x3)))⟩
@[go_sem]def zw(x0 x1 x2 x3:Nat):SQ:=⟨some x0,none,.p (.bin .geq x1 false false (.t x2) (.t x3))⟩
@[go_sem]def zx(x0 x1 x2 x3 x4:Nat):SQ:=⟨some x0,some (x1,true),.p (.bin .leq x2 false false (.t x3) (.t x4))⟩
@[go_sem]def zy(x0 x1 x2 x3:Nat):SQ:=⟨some x0,some (x1,true),.cv (.c (.fn (.func x2) [] [])) [(.t x3)]⟩
@[go_sem]def zz(x0 x1 x2 x3 x4:Nat):SQ:=⟨some x0,some (x1,false),.p (.bin .gtr x2 false false (.t x3) (.t x4))⟩
@[go_sem]def zA(x0 x1 x2 x3:Nat)(x4:Int):SQ:=⟨some x0,some (x1,false),.p (.bin .lss x2 false true (.t x3) (.c (.int .u8 x4)))⟩
@[go_sem]def zB(x0 x1 x2 x3:Nat):SQ:=⟨some x0,some (x1,true),.p (.pick (.t x2) (.c (.bool true)) (.t x3))⟩
@[go_sem]def zC(x0 x1 x2 x3:Nat):SQ:=⟨some x0,some (x1,false),.p (.pick (.t x2) (.t x3) (.c (.bool false)))⟩
@[go_sem]def zD(x0 x1:Nat)(x2 x3 x4 x5:Int):SQ:=⟨some x0,none,.n (.new x1 [.int .i64 x2,.int .i64 x3,.int .i64 x4,.int .i64 x5])⟩
@[go_sem]def zE(x0 x1 x2:Nat):DQ:=⟨x0,[(x1,none)],none,.r (.ld (some x2) (.t x1))⟩
@[go_sem]def zF(x0 x1:Nat)(x2:Int)(x3:Nat):SQ:=⟨some x0,none,.p (.bin .add x1 true false (.c (.int .i64 x2)) (.t x3))⟩
@[go_sem]def zG(x0 x1 x2 x3 x4:Nat):SQ:=⟨some x0,some (x1,true),.p (.iadrS x2 (.t x3) (.t x4))⟩
@[go_sem]def zH(x0 x1 x2 x3 x4 x5 x6:Nat):DQ:=⟨x0,[(x1,(some x2)),(x1,(some x3))],none,.n (.mksl x4 x5 x6 [.bool false] (.t x1) (.t x1))⟩
@[go_sem]def zI(x0 x1 x2:Nat):SQ:=⟨some x0,none,.p (.mkfn (.func x1) [] [(.t x2)])⟩
@[go_sem]def zJ(x0 x1 x2 x3:Nat):SQ:=⟨some x0,none,.p (.fld x1 x2 (.t x3))⟩
@[go_sem]def zK(x0 x1 x2 x3 x4 x5 x6:Nat):SQ:=⟨some x0,none,.p (.build [.nilp,.nilp] [(x1,x2,(.t x3)),(x4,x5,(.t x6))])⟩
@[go_sem]def zL(x0 x1 x2 x3 x4:Nat):DQ:=⟨x0,[(x1,(some x2))],none,.p (.fld x3 x4 (.t x1))⟩
@[go_sem]def zM(x0 x1 x2 x3 x4:Nat)(x5:Int)(x6 x7:Nat):SQ:=⟨some x0,none,.cv (.c (.fn (.func x1) [] [])) [(.t x2),(.t x3),(.t x4),(.c (.int .u8 x5)),(.t x6),(.t x7),(.c (.bool false))]⟩
@[go_sem]def zN(x0 x1 x2 x3 x4:Nat)(x5:Int)(x6:Nat):SQ:=⟨some x0,none,.cv (.c (.fn (.func x1) [] [])) [(.t x2),(.t x3),(.t x4),(.c (.int .u8 x5)),(.t x6),(.c (.bool false))]⟩
@[go_sem]def zO(x0 x1 x2 x3:Nat):DQ:=⟨x0,[(x1,(some x2))],none,.e (.st x3 (.t x1) (.c (.bool true)))⟩
@[go_sem]def zP(x0 x1 x2 x3 x4:Nat)(x5 x6:Int)(x7 x8 x9 x10:Nat):DQ:=⟨x0,[(x1,(some x2)),(x3,(some x4))],none,.p (.build [.int .u64 x5,.int .u64 x6] [(x7,x8,(.t x1)),(x9,x10,(.t x3))])⟩
@[go_sem]def zQ(x0 x1 x2:Nat)(x3:Int):SQ:=⟨some x0,none,.p (.bin .shr x1 false true (.t x2) (.c (.int .u64 x3)))⟩
@[go_sem]def zR(x0 x1 x2 x3:Nat):SQ:=⟨some x0,none,.p (.build [.nils,.nils] [(x1,x2,(.t x3))])⟩
@[go_sem]def zS(x0 x1:Nat)(x2 x3 x4 x5 x6 x7 x8 x9 x10 x11:Int):SQ:=⟨some x0,none,.n (.new x1 [.int .i64 x2,.int .i64 x3,.int .i64 x4,.int .i64 x5,.int .i64 x6,.int .i64 x7,.int .i64 x8,.int .i64 x9,.int .i64 x10,.int .i64 x11])⟩
@[go_sem]def zT(x0 x1 x2 x3:Nat)(x4:Int):SQ:=⟨some x0,some (x1,true),.p (.bin .leq x2 false true (.t x3) (.c (.int .i64 x4)))⟩
@[go_sem]def zU(x0 x1 x2:Nat)(x3 x4:Int):SQ:=⟨some x0,none,.cv (.c (.fn (.func x1) [] [])) [(.t x2),(.c (.int .i64 x3)),(.c (.int .i64 x4))]⟩
@[go_sem]def zV(x0 x1 x2 x3 x4 x5:Nat):SQ:=⟨some x0,none,.p (.idxA x1 x2 x3 (.t x4) (.t x5))⟩
@[go_sem]def zW(x0 x1 x2 x3:Nat)(x4:Int):SQ:=⟨some x0,some (x1,false),.p (.bin .neq x2 false true (.t x3) (.c (.int .i64 x4)))⟩
@[go_sem]def zX(x0 x1 x2 x3:Nat)(x4:Int):SQ:=⟨some x0,some (x1,false),.p (.bin .eql x2 false true (.t x3) (.c (.int .u64 x4)))⟩
@[go_sem]def zY(x0 x1 x2 x3:Nat)(x4:Int):SQ:=⟨some x0,some (x1,false),.p (.bin .neq x2 false true (.t x3) (.c (.int .u8 x4)))⟩
@[go_sem]def zZ(x0 x1 x2 x3:Nat)(x4:Int):SQ:=⟨some x0,some (x1,true),.p (.bin .neq x2 false true (.t x3) (.c (.int .i64 x4)))⟩
@[go_sem]def z0(x0 x1 x2:Nat):SQ:=⟨some x0,none,.p (.bin .eql x1 false true (.t x2) (.c .nils))⟩
@[go_sem]def z1(x0:Nat)(x1 x2 x3 x4 x5 x6 x7 x8 x9 x10 x11 x12 x13 x14 x15:Int):SQ:=⟨some x0,none,.p (.build [.int .i64 x1,.int .i64 x2,.int .u8 x3,.int .i64 x4,.int .u8 x5,.int .i64 x6,.nils,.int .i64 x7,.int .i64 x8,.int .i64 x9,.int .i64 x10,.int .i64 x11,.int .i64 x12,.int .i64 x13,.int .i64 x14,.int .i64 x15] [])⟩
@[go_sem]def z2(x0 x1 x2:Nat)(x3:Int):SQ:=⟨some x0,none,.p (.bin .gtr x1 false true (.t x2) (.c (.int .u64 x3)))⟩
@[go_sem]def z3(x0 x1 x2 x3 x4 x5:Nat)(x6:Int)(x7 x8:Nat):DQ:=⟨x0,[(x1,(some x2))],none,.n (.buildS x3 x4 x5 [.int .i64 x6] [(x7,x8,(.t x1))])⟩
@[go_sem]def z4(x0 x1:Nat)(x2:Int):SQ:=⟨none,none,.e (.st x0 (.t x1) (.c (.int .i64 x2)))⟩
@[go_sem]def z5(x0 x1 x2 x3:Nat):SQ:=⟨some x0,none,.p (.mkfn (.func x1) [] [(.t x2),(.t x3)])⟩
@[go_sem]def z6(x0 x1 x2:Nat)(x3 x4 x5:Int):DQ:=⟨x0,[(x1,(some x2))],none,.cv (.t x1) [(.c (.int .u8 x3)),(.c (.int .i64 x4)),(.c (.int .i64 x5))]⟩
@[go_sem]def z7(x0 x1 x2 x3 x4:Nat):SQ:=⟨some x0,some (x1,true),.p (.bin .eql x2 false false (.t x3) (.t x4))⟩
@[go_sem]def z8(x0 x1 x2 x3 x4 x5:Nat):DQ:=⟨x0,[(x1,(some x2)),(x3,(some x4))],none,.p (.bin .rem x5 false false (.t x1) (.t x3))⟩
@[go_sem]def z9(x0 x1 x2:Nat)(x3:Int):SQ:=⟨some x0,none,.p (.bin .leq x1 false true (.t x2) (.c (.int .i64 x3)))⟩
@[go_sem]def ja(x0 x1 x2:Nat)(x3 x4 x5 x6:Int):SQ:=⟨some x0,none,.cv (.c (.fn (.func x1) [] [])) [(.t x2),(.c (.int .i64 x3)),(.c (.int .u8 x4)),(.c (.int .i64 x5)),(.c (.int .i64 x6))]⟩
@[go_sem]def jb(x0 x1 x2:Nat)(x3:Int):SQ:=⟨some x0,none,.p (.bin .lss x1 false true (.t x2) (.c (.int .u8 x3)))⟩
@[go_sem]def jc(x0 x1 x2 x3:Nat)(x4:Int)(x5:Nat):SQ:=⟨some x0,none,.n (.mksl x1 x2 x3 [.int .u64 x4,.bool false,.bool false] (.t x5) (.t x5))⟩
@[go_sem]def jd(x0:Nat)(x1:Int)(x2 x3 x4 x5 x6 x7 x8 x9 x10:Nat):SQ:=⟨some x0,none,.p (.build [.nilp,.int .i64 x1,.nils] [(x2,x3,(.t x4)),(x5,x6,(.t x7)),(x8,x9,(.t x10))])⟩
@[go_sem]def je(x0:Nat)(x1 x2 x3 x4 x5:Int)(x6 x7 x8 x9 x10 x11 x12 x13 x14 x15 x16 x17 x18 x19 x20 x21 x22 x23:Nat):SQ:=⟨some x0,none,.p (.build [.int .i64 x1,.int .i64 x2,.int .u8 x3,.int .u64 x4,.int .u64 x5,.bool false] [(x6,x7,(.t x8)),(x9,x10,(.t x11)),(x12,x13,(.t x14)),(x15,x16,(.t x17)),(x18,x19,(.t x20)),(x21,x22,(.t x23))])⟩
@[go_sem]def jf(x0 x1 x2 x3 x4 x5:Nat):DQ:=⟨x0,[(x1,(some x2)),(x3,(some x4))],none,.p (.bin .eql x5 false false (.t x1) (.t x3))⟩
@[go_sem]def jg(x0 x1 x2 x3 x4 x5 x6 x7 x8:Nat)(x9 x10 x11 x12:Int)(x13 x14 x15 x16 x17 x18 x19 x20:Nat):DQ:=⟨x0,[(x1,(some x2)),(x3,(some x4)),(x5,(some x6)),(x7,(some x8))],none,.p (.build [.int .i64 x9,.int .i64 x10,.int .u8 x11,.int .u64 x12] [(x13,x14,(.t x1)),(x15,x16,(.t x3)),(x17,x18,(.t x5)),(x19,x20,(.t x7))])⟩
@[go_sem]def jh(x0 x1 x2 x3 x4 x5:Nat)(x6 x7 x8 x9:Int)(x10 x11:Nat):DQ:=⟨x0,[(x1,(some x2))],none,.n (.buildS x3 x4 x5 [.int .i64 x6,.int .i64 x7,.int .u8 x8,.int .u64 x9] [(x10,x11,(.t x1))])⟩
@[go_sem]def ji(x0 x1 x2:Nat)(x3:Int):SQ:=⟨some x0,none,.p (.bin .rem x1 false true (.t x2) (.c (.int .u64 x3)))⟩
@[go_sem]def jj(x0 x1 x2:Nat)(x3:Int):SQ:=⟨some x0,none,.p (.bin .eql x1 false true (.t x2) (.c (.int .u64 x3)))⟩
@[go_sem]def jk(x0 x1 x2 x3 x4:Nat):SQ:=⟨some x0,some (x1,false),.cv (.c (.fn (.func x2) [] [])) [(.t x3),(.t x4)]⟩
@[go_sem]def jl(x0 x1 x2 x3:Nat):DQ:=⟨x0,[(x1,(some x2))],none,.e (.st x3 (.t x1) (.c (.bool false)))⟩
@[go_sem]def jm(x0 x1 x2 x3:Nat):SQ:=⟨some x0,some (x1,false),.p (.bin .eql x2 false true (.t x3) (.c .nilf))⟩
@[go_sem]def jn(x0 x1 x2 x3 x4:Nat):DQ:=⟨x0,[(x1,(some x2)),(x3,(some x4))],none,.cv (.t x1) [(.t x3)]⟩
@[go_sem]def jo(x0 x1 x2 x3:Nat):SQ:=⟨some x0,none,.l ⟨x1,(.t x2),(.t x3),.nilp,true⟩⟩
@[go_sem]def jp(x0 x1 x2 x3:Nat):SQ:=⟨none,none,.m (.upd x0 (.t x1) (.t x2) (.t x3))⟩
@[go_sem]def jq(x0 x1 x2 x3 x4 x5 x6 x7:Nat)(x8:Int):DQ:=⟨x0,[(x1,(some x2)),(x3,(some x4)),(x5,(some x6))],none,.cv (.c (.fn (.func x7) [] [])) [(.t x1),(.t x3),(.t x5),(.c (.int .u64 x8))]⟩
@[go_sem]def jr(x0 x1 x2 x3 x4 x5 x6:Nat):SQ:=⟨some x0,none,.cv (.c (.fn (.func x1) [] [])) [(.t x2),(.t x3),(.t x4),(.t x5),(.t x6)]⟩
@[go_sem]def js(x0 x1 x2 x3:Nat)(x4:Int):DQ:=⟨x0,[(x1,(some x2))],none,.p (.bin .mul x3 true false (.c (.int .i64 x4)) (.t x1))⟩
@[go_sem]def jt(x0 x1 x2 x3:Nat):SQ:=⟨some x0,none,.p (.bin .gtr x1 false false (.t x2) (.t x3))⟩
@[go_sem]def ju(x0:Nat)(x1:Int)(x2 x3 x4 x5 x6 x7:Nat):SQ:=⟨some x0,none,.p (.build [.nilp,.int .i64 x1,.nils,.bool false] [(x2,x3,(.t x4)),(x5,x6,(.t x7))])⟩
@[go_sem]def jv(x0 x1 x2 x3 x4 x5 x6:Nat)(x7:Int):DQ:=⟨x0,[(x1,(some x2)),(x3,(some x4))],some (x5,true),.p (.bin .sub x6 false true (.t x3) (.c (.int .i64 x7)))⟩
@[go_sem]def jw(x0 x1:Nat)(x2 x3:Int):SQ:=⟨some x0,none,.n (.new x1 [.int .u8 x2,.int .i64 x3,.nils])⟩
@[go_sem]def jx(x0:Nat)(x1 x2:Int)(x3 x4:Nat)(x5:Int):SQ:=⟨some x0,none,.p (.build [.int .u8 x1,.int .i64 x2,.nils] [(x3,x4,(.c (.int .u8 x5)))])⟩
@[go_sem]def jy(x0:Nat)(x1 x2:Int)(x3 x4:Nat)(x5:Int)(x6 x7 x8:Nat):SQ:=⟨some x0,none,.p (.build [.int .u8 x1,.int .i64 x2,.nils] [(x3,x4,(.c (.int .u8 x5))),(x6,x7,(.t x8))])⟩
@[go_sem]def jz(x0 x1 x2 x3 x4:Nat)(x5:Int):SQ:=⟨some x0,none,.cv (.c (.fn (.func x1) [] [])) [(.t x2),(.t x3),(.t x4),(.c (.int .i64 x5))]⟩
@[go_sem]def jA(x0 x1 x2 x3 x4:Nat):SQ:=⟨some x0,some (x1,false),.p (.bin .neq x2 false false (.t x3) (.t x4))⟩
def ptrL:List TypeId:=[30,31,62,69,91,86,92,93,94,42,43,44,45,46,138,327,334,341,210,211,212,129,104,53,57,576,588,605,72,75,89,215,216,217,218,219,220]
def isPtr(P:Program)(t:TypeId):Bool:=match P.underlying t with
 |some (.pointer _)=>true
 |_=>false
class PT(P:Program):Prop where
 ptr:ptrL.all (isPtr P)=true
 agg3:aggOf P 3=some none
 sl22:∃e,P.underlying 22=some (.slice e)
 opA:∀(g:Nat->Option AO) (G:Nat),methA P g 8 333 (.agg [.ifc 327 (.ptr G 0)]) "Open"=some (426,.ptr G 0)
 opB:∀(g:Nat->Option AO) (G:Nat),methA P g 8 340 (.agg [.ifc 334 (.ptr G 0)]) "Open"=some (442,.ptr G 0)
 opC:∀(g:Nat->Option AO) (G:Nat),methA P g 8 347 (.agg [.ifc 341 (.ptr G 0)]) "Open"=some (453,.ptr G 0)
 sl47:∃e,P.underlying 47=some (.slice e)
 fn78:∃a b c,P.underlying 78=some (.func a b c)
 enA:∀(g:Nat->Option AO) (G:Nat),methA P g 8 333 (.agg [.ifc 327 (.ptr G 0)]) "Enter"=some (436,.agg [.ifc 327 (.ptr G 0)])
 enB:∀(g:Nat->Option AO) (G:Nat),methA P g 8 340 (.agg [.ifc 334 (.ptr G 0)]) "Enter"=some (447,.agg [.ifc 334 (.ptr G 0)])
 enC:∀(g:Nat->Option AO) (G:Nat),methA P g 8 347 (.agg [.ifc 341 (.ptr G 0)]) "Enter"=some (481,.agg [.ifc 341 (.ptr G 0)])
 rwA:∀(g:Nat->Option AO) (G:Nat),methA P g 8 327 (.ptr G 0) "Enter"=some (424,.ptr G 0)
 rwB:∀(g:Nat->Option AO) (G:Nat),methA P g 8 334 (.ptr G 0) "Enter"=some (440,.ptr G 0)
 rwC:∀(g:Nat->Option AO) (G:Nat),methA P g 8 341 (.ptr G 0) "Enter"=some (451,.ptr G 0)
 stA:∀(g:Nat->Option AO) (X:Nat),methA P g 8 576 (.ptr X 0) "Step"=some (555,.ptr X 0)
 stB:∀(g:Nat->Option AO) (X:Nat),methA P g 8 588 (.ptr X 0) "Step"=some (559,.ptr X 0)
 stC:∀(g:Nat->Option AO) (X:Nat),methA P g 8 605 (.ptr X 0) "Step"=some (571,.ptr X 0)
 nxA:∀(g:Nat->Option AO) (X:Nat),methA P g 8 576 (.ptr X 0) "Next"=some (554,.ptr X 0)
 nxB:∀(g:Nat->Option AO) (X:Nat),methA P g 8 588 (.ptr X 0) "Next"=some (558,.ptr X 0)
 nxC:∀(g:Nat->Option AO) (X:Nat),methA P g 8 605 (.ptr X 0) "Next"=some (570,.ptr X 0)
 nextE:∀(g:Nat->Option AO) (L:Nat),methA P g 8 53 (.ptr L 0) "Next"=some (369,.ptr L 0)
 nextM:∀(g:Nat->Option AO) (L:Nat),methA P g 8 129 (.ptr L 0) "Next"=some (420,.ptr L 0)
class PtrTy(P:Program)(t:TypeId):Prop where
 ex:∃e,P.underlying t=some (.pointer e)
theorem PT.ty{P:Program}(p:PT P){t:TypeId}(h:ptrL.elem t=true):PtrTy P t:=⟨by
 have:=List.all_eq_true.1 p.ptr t (List.elem_iff.1 h)
 unfold isPtr at this
 split at this
 ·rename_i e he;exact⟨e,he⟩
 ·cases this⟩
@[go_sem] theorem nilQ(P:Program)(t:TypeId)[p:PtrTy P t](a o:Nat):evBin P .eql t false true (.ptr a o) .nilp=some (.bool false):=by
 obtain⟨e,h⟩:=p.ex
 unfold evBin
 simp only[]
 unfold evBin.nilEq
 simp only[h]
@[go_sem] theorem nilQ0(P:Program)(t:TypeId)[p:PtrTy P t]:evBin P .eql t false true .nilp .nilp=some (.bool true):=by
 obtain⟨e,h⟩:=p.ex
 unfold evBin
 simp only[]
 unfold evBin.nilEq
 simp only[h]
@[go_sem] theorem nilR(P:Program)(t:TypeId)[p:PtrTy P t](a o:Nat):evBin P .neq t false true (.ptr a o) .nilp=some (.bool true):=by
 obtain⟨e,h⟩:=p.ex
 unfold evBin
 simp only[]
 unfold evBin.nilEq
 simp only[h]
 rfl
@[go_sem] theorem nilR0(P:Program)(t:TypeId)[p:PtrTy P t]:evBin P .neq t false true .nilp .nilp=some (.bool false):=by
 obtain⟨e,h⟩:=p.ex
 unfold evBin
 simp only[]
 unfold evBin.nilEq
 simp only[h]
 rfl
theorem snil(P:Program)[p:PT P](a o l es:Nat)(c:Option Nat):evBin P .eql 22 false true (.sl a o l es c) .nils=some (.bool false):=by
 obtain⟨e,h⟩:=p.sl22
 unfold evBin
 simp only[]
 unfold evBin.nilEq
 simp only[h]
theorem snil0(P:Program)[p:PT P]:evBin P .eql 22 false true .nils .nils=some (.bool true):=by
 obtain⟨e,h⟩:=p.sl22
 unfold evBin
 simp only[]
 unfold evBin.nilEq
 simp only[h]
instance p36(P:Program)[p:PT P]:PtrTy P 30:=p.ty (by decide)
instance p39(P:Program)[p:PT P]:PtrTy P 31:=p.ty (by decide)
instance p50(P:Program)[p:PT P]:PtrTy P 62:=p.ty (by decide)
instance p53(P:Program)[p:PT P]:PtrTy P 69:=p.ty (by decide)
instance p64(P:Program)[p:PT P]:PtrTy P 91:=p.ty (by decide)
instance p67(P:Program)[p:PT P]:PtrTy P 86:=p.ty (by decide)
instance p68(P:Program)[p:PT P]:PtrTy P 92:=p.ty (by decide)
instance p69(P:Program)[p:PT P]:PtrTy P 93:=p.ty (by decide)
instance p70(P:Program)[p:PT P]:PtrTy P 94:=p.ty (by decide)
instance p91(P:Program)[p:PT P]:PtrTy P 42:=p.ty (by decide)
instance p97(P:Program)[p:PT P]:PtrTy P 43:=p.ty (by decide)
instance p98(P:Program)[p:PT P]:PtrTy P 44:=p.ty (by decide)
instance p99(P:Program)[p:PT P]:PtrTy P 45:=p.ty (by decide)
instance p100(P:Program)[p:PT P]:PtrTy P 46:=p.ty (by decide)
instance p146(P:Program)[p:PT P]:PtrTy P 138:=p.ty (by decide)
instance p199(P:Program)[p:PT P]:PtrTy P 327:=p.ty (by decide)
instance p206(P:Program)[p:PT P]:PtrTy P 334:=p.ty (by decide)
instance p213(P:Program)[p:PT P]:PtrTy P 341:=p.ty (by decide)
instance p228(P:Program)[p:PT P]:PtrTy P 210:=p.ty (by decide)
instance p229(P:Program)[p:PT P]:PtrTy P 211:=p.ty (by decide)
instance p230(P:Program)[p:PT P]:PtrTy P 212:=p.ty (by decide)
instance p246(P:Program)[p:PT P]:PtrTy P 129:=p.ty (by decide)
instance p104q(P:Program)[p:PT P]:PtrTy P 104:=p.ty (by decide)
instance p53q(P:Program)[p:PT P]:PtrTy P 53:=p.ty (by decide)
instance p57q(P:Program)[p:PT P]:PtrTy P 57:=p.ty (by decide)
instance p576q(P:Program)[p:PT P]:PtrTy P 576:=p.ty (by decide)
instance p588q(P:Program)[p:PT P]:PtrTy P 588:=p.ty (by decide)
instance p605q(P:Program)[p:PT P]:PtrTy P 605:=p.ty (by decide)
instance p72q(P:Program)[p:PT P]:PtrTy P 72:=p.ty (by decide)
instance p75q(P:Program)[p:PT P]:PtrTy P 75:=p.ty (by decide)
instance p89q(P:Program)[p:PT P]:PtrTy P 89:=p.ty (by decide)
instance p215q(P:Program)[p:PT P]:PtrTy P 215:=p.ty (by decide)
instance p216q(P:Program)[p:PT P]:PtrTy P 216:=p.ty (by decide)
instance p217q(P:Program)[p:PT P]:PtrTy P 217:=p.ty (by decide)
instance p218q(P:Program)[p:PT P]:PtrTy P 218:=p.ty (by decide)
instance p219q(P:Program)[p:PT P]:PtrTy P 219:=p.ty (by decide)
instance p220q(P:Program)[p:PT P]:PtrTy P 220:=p.ty (by decide)
theorem snil47(P:Program)[p:PT P](a o l es:Nat)(c:Option Nat):evBin P .eql 47 false true (.sl a o l es c) .nils=some (.bool false):=by
 obtain⟨e,h⟩:=p.sl47
 unfold evBin
 simp only[]
 unfold evBin.nilEq
 simp only[h]
theorem snil470(P:Program)[p:PT P]:evBin P .eql 47 false true .nils .nils=some (.bool true):=by
 obtain⟨e,h⟩:=p.sl47
 unfold evBin
 simp only[]
 unfold evBin.nilEq
 simp only[h]
theorem fnil(P:Program)[p:PT P](f:Fn)(a b:List AV):evBin P .eql 78 false true (.fn f a b) .nilf=some (.bool false):=by
 obtain⟨x,y,z,h⟩:=p.fn78
 unfold evBin
 simp only[]
 unfold evBin.nilEq
 simp only[h]
theorem fnil0(P:Program)[p:PT P]:evBin P .eql 78 false true .nilf .nilf=some (.bool true):=by
 obtain⟨x,y,z,h⟩:=p.fn78
 unfold evBin
 simp only[]
 unfold evBin.nilEq
 simp only[h]
end
end Go.Proofs.YtghmnaojmpjglaaGreatDoor.PR
namespace Go.Proofs.YtghmnaojmpjglaaGreatDoor.PR
open Go.Proofs.YtghmnaojmpjglaaGreatDoor.Eo
noncomputable section
variable(P:Program)[PT P]{call:CallE}
@[go_sem]def c158:CF:=⟨1,(Sq [b 2 0] (Qq (.block 0 (Sq [a 4 0,U 5 3 4 0,a 3 5] (Kq 3 [b 2 2] (Sq [a 7 0,zv 8 3 7 65536,a 6 8] (Kq 6 [b 2 5] .skip))))) (Rq [b 2 0]))),[.tmp 2]⟩
@[go_sem]def c159:CF:=⟨2,(Oq [a 4 0,m 5 4,d 6 0 5,a 7 1,Z 8 233 6 7]),[]⟩
@[go_sem]def c91:CF:=⟨3,(Sq [b 6 0] (Qq (.block 0 (Sq [a 8 0,u 9 86 8,a 7 9] (Kq 7 [b 6 1] (Sq [a 11 1,K 12 3 11 0,a 13 12,s 14 13 1,qn 15 13 3 14 64,r 16 13 15,a 10 16] (Kq 10 [b 6 2] (Sq [a 18 2,K 19 3 18 0,a 20 19,s 21 20 2,s 22 20 0,qi 23 20 22,M 24 20 0 23,L 25 20 24,qO 26 20 25,qw 27 20 3 21 26,r 28 20 27,a 17 28] (Kq 17 [b 6 3] .skip))))))) (Rq [b 6 0]))),[.tmp 6]⟩
@[go_sem]def c143:CF:=⟨1,(Sq [qk 2 0] (Rq [a 3 0,m 4 3,d 5 0 4,q 6 224 5,a 2 6])),[.tmp 2]⟩
@[go_sem]def c109:CF:=⟨2,(Sq [qk 4 0,G 5] (Qq (Sq [a 6 0,a 7 1,⟨some 8,none,.cv (.c (.fn (.func 91) [] [])) [.t 6,.c (.int .i64 0),.t 7]⟩,z 9 54 8 0] (Kq 9 [qk 4 0,G 5] .skip)) (Rq [a 10 0,m 11 10,d 12 0 11,i 13 12,a 14 1,E 15 1 13 14,q 16 143 15,a 4 16,qx 5]))),[.tmp 4,.tmp 5]⟩
def c78_l10:CC:=(Sq [qb 22 3 21 20] (Qq (Cq 22 .skip (.exit 0)) (Qq (.block 1 (Sq [a 23 21,E 24 1 19 21,i 25 24,a 6 23,a 7 25] (Oq [a 26 5,m 27 26,d 28 0 27,i 29 28,a 30 6,E 31 1 29 30,a 32 7,Z 33 159 31 32]))) (Oq [C 34 3 21 1,a 21 34]))))
@[go_sem]def c78:CF:=⟨1,(Sq [p 2,b 3 0] (Qq (Sq [a 8 0,A 9 8,q 10 158 9,a 4 10] (Sq [a 11 4,z 12 54 11 0] (Kq 12 [a 13 4,p 2,a 3 13] .skip))) (Sq [a 14 0,A 15 14,ze 16 194 1 8 0 15,zR 17 0 1 16,w 18 197 17,a 5 18] (Qq (Sq [a 19 0,A 20 19,b 21 0] (.block 0 (.loop c78_l10))) (Rq [a 35 5,a 2 35,b 3 0]))))),[.tmp 2,.tmp 3]⟩
theorem w158(P:Program){call:CallE}{h:H}{n:Int}:WF P call c158 [.int .i64 n] h fun v h'=>v=.int .i64 (if n=0 then 2 else if 65536<n then 5 else 0)∧h'=h:=by
 by_cases h0:n=0
 ·simp only[go_sem,seval,h0]
 by_cases h1:65536<n
 ·simp only[go_sem,seval,h0,h1]
 simp only[go_sem,seval,h0,h1]
structure MemG(h:H)(M W:Nat)(ws:List Int)(lg:AV):Prop where
 g:h.t.get M=some (.row (putList 0 [.sl W 0 ws.length 1 (some ws.length),lg] T.e) 2 197)
 o:oneA lg=true
 w:h.t.get W=some (rowL (ws.map (AV.int .u64)) 194)
 ne:M≠W
structure MemH(h:H)(M W:Nat)(ws:List Int):Prop where
 mk::
 ex:∃lg,h.t.get M=some (.row (putList 0 [.sl W 0 ws.length 1 (some ws.length),lg] T.e) 2 197)∧oneA lg=true
 w:h.t.get W=some (rowL (ws.map (AV.int .u64)) 194)
 ne:M≠W
theorem MemG.mem{h:H}{M W:Nat}{ws:List Int}{lg:AV}(m:MemG h M W ws lg):MemH h M W ws:=⟨⟨lg,m.g,m.o⟩,m.w,m.ne⟩
theorem w91{h:H}{M W:Nat}{ws:List Int}(hm:MemH h M W ws){t a:Int}:WF P call c91 [.ptr M 0,.int .i64 t,.int .i64 a] h fun v h'=>v=.int .i64 (if t<0∨64<=t then 2 else if a<0∨(ws.length:Int)<=a then 3 else 0)∧h'=h:=by
 obtain⟨lg,g1,_⟩:=hm.ex
 by_cases h0:t<0
 ·simp only[go_sem,seval,h0,g1,true_or]
 by_cases h1:t<64
 case neg=>
  have e1:(64:Int)<=t:=by omega
  simp only[go_sem,seval,h0,h1,e1,g1,or_true]
 have e1:¬(64:Int)<=t:=by omega
 by_cases h2:a<0
 ·simp only[go_sem,seval,h0,h1,e1,h2,g1,true_or,or_self]
 by_cases h3:a<(ws.length:Int)
 ·have e3:¬(ws.length:Int)<=a:=by omega
  simp only[go_sem,seval,h0,h1,e1,h2,h3,e3,g1,or_self]
 ·have e3:(ws.length:Int)<=a:=by omega
  simp only[go_sem,seval,h0,h1,e1,h2,h3,e3,g1,or_true,or_self]
def F224(call:CallE):Prop:=∀h W i (x:Int),(∃cs n e,h.t.get W=some (.row (putList 0 cs T.e) n e)∧cs[i]?=some (.int .u64 x))->call 224 [.ptr W i] h=some (.int .u64 x,h)
theorem w143(P:Program){call:CallE}(h156:F224 call){h:H}{W i:Nat}{x:Int}(hx:∃cs n e,h.t.get W=some (.row (putList 0 cs T.e) n e)∧cs[i]?=some (.int .u64 x)):WF P call c143 [.ptr W i] h fun v h'=>v=.int .u64 x∧h'=h:=by
 have hc:=h156 h W i x hx
 simp only[go_sem,seval,hc]
theorem w109(P:Program){call:CallE}(h102:∀h M W ws (t a:Int),MemH h M W ws->call 91 [.ptr M 0,.int .i64 t,.int .i64 a] h=some (.int .i64 (if t<0∨64<=t then 2 else if a<0∨(ws.length:Int)<=a then 3 else 0),h))
 (h103:∀h W i (x:Int),(∃cs n e,h.t.get W=some (.row (putList 0 cs T.e) n e)∧cs[i]?=some (.int .u64 x))->call 143 [.ptr W i] h=some (.int .u64 x,h))
 {h:H} {M W:Nat} {ws:List Int} (hm:MemH h M W ws) {a:Int}:WF P call c109 [.ptr M 0,.int .i64 a] h fun v h'=>v=(if h:0<=a∧a.toNat<ws.length then .tup [.int .u64 (ws[a.toNat]'h.2),.bool true]else .tup [.int .u64 0,.bool false])∧h'=h:=by
 obtain⟨lg,g1,_⟩:=hm.ex
 have hc:=h102 h M W ws 0 a hm
 by_cases h0:0<=a∧a.toNat<ws.length
 ·rw[dif_pos h0]
  obtain⟨n,rfl⟩:∃n:Nat,a=n:=⟨a.toNat,by omega⟩
  have hn:n<ws.length:=by have:=h0.2;omega
  have e0:¬((n:Int)<0∨(ws.length:Int)<=(n:Int)):=by omega
  rw[if_neg (by decide),if_neg e0]at hc
  have hr:=h103 h W n ws[n] ⟨_,_,_,hm.w,by rw[List.getElem?_map,List.getElem?_eq_getElem hn];rfl⟩
  have e1:(n:Int)<(ws.length:Int):=by omega
  simp only[go_sem,seval,hc,g1,e1,Nat.mul_one,hr]
 ·rw[dif_neg h0]
  have e0:a<0∨(ws.length:Int)<=a:=by omega
  rw[if_neg (by decide),if_pos e0]at hc
  simp only[go_sem,seval,hc]
def F233(call:CallE):Prop:=∀h W i (x:Int) cs n e,h.t.get W=some (.row (putList 0 cs T.e) n e)->i<cs.length->i<n->call 233 [.ptr W i,.int .u64 x] h=some (.tup [],⟨h.next,h.t.set W (.row (putList 0 (cs.set i (.int .u64 x)) T.e) n e)⟩)
theorem w159(P:Program){call:CallE}(h101:F233 call){h:H}{W i:Nat}{x:Int}{cs:List AV}{n:Nat}{e:TypeId}(hg:h.t.get W=some (.row (putList 0 cs T.e) n e))(hi:i<cs.length)(hn:i<n):WF P call c159 [.ptr W i,.int .u64 x] h fun v h'=>v=.tup []∧h'=⟨h.next,h.t.set W (.row (putList 0 (cs.set i (.int .u64 x)) T.e) n e)⟩:=by
 have hc:=h101 h W i x cs n e hg hi hn
 simp only[go_sem,seval,hc]
theorem evLenN(k:IntKind)(n:Nat):evLen (.int k (n:Int))=some n:=rfl
theorem rep_one(x:AV)(n:Nat):rep [x] n=List.replicate n x:=by
 rw[List.eq_replicate_iff]
 refine⟨by simp[rep],fun b hb=>?_⟩
 unfold rep at hb
 obtain⟨i,_,rfl⟩:=List.mem_map.1 hb
 simp[Nat.mod_one]
def mixW(ws:List Int)(i:Nat):List AV:=(ws.take i).map (AV.int .u64)++List.replicate (ws.length-i) (.int .u64 0)
theorem mixW_len(ws:List Int){i:Nat}(h:i<=ws.length):(mixW ws i).length=ws.length:=by
 unfold mixW
 rw[List.length_append,List.length_map,List.length_take,List.length_replicate]
 omega
theorem mixW_set(ws:List Int){i:Nat}(h:i<ws.length):(mixW ws i).set i (.int .u64 ws[i])=mixW ws (i+1):=by
 unfold mixW
 have e:ws.length-i=(ws.length-(i+1))+1:=by omega
 have el:((ws.take i).map (AV.int .u64)).length=i:=by rw[List.length_map,List.length_take];omega
 rw[e,List.replicate_succ,List.set_append_right _ _ (by omega),el,Nat.sub_self,List.set_cons_zero,List.take_add_one,List.getElem?_eq_getElem h,List.map_append,List.append_assoc]
 rfl
def I21(h0:H)(v:AV)(ws:List Int)(k:Nat)(tm:T AV)(h:H):Prop:=
 tm.get 19=some v∧tm.get 20=some (.int .i64 (ws.length:Int))∧tm.get 5=some (.ptr (h0.next+1) 0)∧h.next=h0.next+2∧(∀b,b<h0.next->h.t.get b=h0.t.get b)∧h.t.get (h0.next+1)=some (.row (putList 0 [.sl h0.next 0 ws.length 1 (some ws.length),.nils] T.e) 2 197)∧
    ∃i:Nat,i+k=ws.length∧tm.get 21=some (.int .i64 (i:Int))∧h.t.get h0.next=some (.row (putList 0 (mixW ws i) T.e) ws.length 194)
theorem step21(P:Program){call:CallE}(h64:∀h W i (x:Int) cs n e,h.t.get W=some (.row (putList 0 cs T.e) n e)->i<cs.length->i<n->call 159 [.ptr W i,.int .u64 x] h=some (.tup [],⟨h.next,h.t.set W (.row (putList 0 (cs.set i (.int .u64 x)) T.e) n e)⟩))
 {h0:H} {v:AV} {ws:List Int} {e:TypeId} (hv0:Own 1 e h0 v ws.length (ws.map (AV.int .u64))) (hl2:ws.length<=65536) (k:Nat) (tm:T AV) (h:H) (hI:I21 h0 v ws k tm h):
 WC P call c78_l10 (loopQ 0 (fun tm h=>∃j,j<k∧I21 h0 v ws j tm h) (fun tm h=>tm.get 5=some (.ptr (h0.next+1) 0)∧h.next=h0.next+2∧(∀b,b<h0.next->h.t.get b=h0.t.get b)∧MemG h (h0.next+1) h0.next ws .nils) (fun _ _=>False)) tm h:=by
 obtain⟨t19,t20,t5,nx,old,gM,i,hik,t21,gW⟩:=hI
 have hv:Own 1 e h v ws.length (ws.map (AV.int .u64)):=hv0.keep (by omega) fun b hb=>old b (hv0.lt hb)
 cases k with
 |zero=>
  have e1:¬(i:Int)<(ws.length:Int):=by omega
  simp only[go_sem,seval,c78_l10,t20,t21,e1]
  have hi:i=ws.length:=by omega
  refine⟨t5,nx,old,⟨gM,rfl,?_,by omega⟩⟩
  rw[gW,hi]
  unfold mixW rowL
  rw[List.take_length,Nat.sub_self,List.replicate_zero,List.append_nil,List.length_map]
 |succ k=>
  have e1:(i:Int)<(ws.length:Int):=by omega
  have hi:i<ws.length:=by omega
  have hc:=h64 h h0.next i ws[i] _ _ _ gW (by rw[mixW_len ws (by omega)];exact hi) hi
  rw[mixW_set ws hi]at hc
  generalize hcs:ws.map (AV.int .u64)=cs at hv hv0
  generalize hln:ws.length=n at hv hv0
  have hget:cs[i]?=some (.int .u64 ws[i]):=by rw[←hcs,List.getElem?_map,List.getElem?_eq_getElem hi];rfl
  cases hv with
  |nil=>omega
  |sl a len cs cap hc0 hp hcl ha hg=>
   rw[hln]at e1 t20 gM gW hc hi hik
   have f1:fw .i64 ((i:Int)+1)=(i:Int)+1:=fwI (by omega) (by omega)
   have e3:((i+1:Nat):Int)=(i:Int)+1:=rfl
   have x1:¬h0.next+1=h0.next:=by omega
   simp only[go_sem,seval,c78_l10,t19,t20,t21,t5,e1,Nat.mul_one,hg,hget,gM,hc,f1]
   refine⟨k,Nat.lt_succ_self k,by simp[go_sem,t19],by simp[go_sem,t20,hln],by simp[go_sem,t5],nx,fun b hb=>?_,by simp[go_sem,x1,gM,hln],i+1,by omega,by simp[go_sem,e3],by simp[go_sem,hln]⟩
   have e0:¬b=h0.next:=by omega
   simp only[go_sem,seval,e0]
   exact old b hb
structure PostM(ws:List Int)(h:H)(v:AV)(h':H):Prop where
 v:v=.tup [.ptr (h.next+1) 0,.int .i64 0]
 next:h'.next=h.next+2
 old:∀b,b<h.next->h'.t.get b=h.t.get b
 m:MemG h' (h.next+1) h.next ws .nils
theorem w78(P:Program){call:CallE}(h64:∀h W i (x:Int) cs n e,h.t.get W=some (.row (putList 0 cs T.e) n e)->i<cs.length->i<n->call 159 [.ptr W i,.int .u64 x] h=some (.tup [],⟨h.next,h.t.set W (.row (putList 0 (cs.set i (.int .u64 x)) T.e) n e)⟩))(h63:∀h (n:Int),call 158 [.int .i64 n] h=some (.int .i64 (if n=0 then 2 else if 65536<n then 5 else 0),h)){h:H}{v:AV}{ws:List Int}{e:TypeId}(hv:Own 1 e h v ws.length (ws.map (AV.int .u64)))(h0:0<ws.length)(h1:ws.length<=65536):WF P call c78 [v] h (PostM ws h):=by
 have hla:=hv.lenA
 have hc:=h63 h (ws.length:Int)
 rw[if_neg (by omega),if_neg (by omega)]at hc
 have e1:8*ws.length<=281474976710656:=by omega
 have e2:ws.length<=281474976710656:=by omega
 simp only[go_sem,seval,hla,hc,evLenN,rep_one,Nat.mul_one,Nat.le_refl,e1,e2,decide_true,Bool.and_self,cond_true]
 have mz:mixW ws 0=List.replicate ws.length (.int .u64 0):=rfl
 refine loop_in (I21 h v ws) _ _ (fun k tm h' hI=>step21 P h64 hv h1 k tm h' hI) (fun tm2 h2 hR=>?_) (fun _ _ hh=>hh.elim) ws.length _ _
  ⟨by simp[go_sem],by simp[go_sem],by simp[go_sem],rfl,fun b hb=>?_,by simp[go_sem],0,by omega,by simp[go_sem],by simp[go_sem,mz]⟩
 ·obtain⟨t5,nx,old,hm⟩:=hR
  simp only[go_sem,seval,t5]
  exact⟨rfl,nx,old,hm⟩
 ·have x1:¬b=h.next:=by omega
  have x2:¬b=h.next+1:=by omega
  simp only[go_sem,seval,x1,x2]
@[go_sem]def c83:CF:=⟨1,(Sq [zS 2 38 0 0 0 0 0 0 0 0 0 0] (Qq (Sq [a 3 0,u 4 91 3] (Kq 4 [⟨some 5,none,.p (.build [iz,iz,iz,iz,iz,iz,iz,iz,iz,iz] [])⟩,t 10 2 5] .skip)) (Rq [a 6 0,m 7 6,d 8 16 7,V 9 10 8,t 10 2 9]))),[(.cell 2 (some 10))]⟩
def c60_l9:CC:=(Sq [qb 19 3 18 17] (Qq (Cq 19 .skip (.exit 0)) (Qq (.block 1 (Sq [a 20 18,a 4 20] (Oq [a 21 3,a 22 4,a 23 0,m 24 23,d 25 0 24,i 26 25,a 27 4,E 28 1 26 27,q 29 143 28,E 30 1 21 22,t 1 30 29]))) (Oq [C 31 3 18 1,a 18 31]))))
@[go_sem]def c60:CF:=⟨1,(Sq [D 2] (Qq (Sq [a 5 0,u 6 86 5] (Kq 6 [D 2] .skip)) (Sq [a 7 0,m 8 7,d 9 0 8,i 10 9,A 11 10,ze 12 51 1 8 0 11,a 3 12] (Qq (Sq [a 13 0,m 14 13,d 15 0 14,i 16 15,A 17 16,b 18 0] (.block 0 (.loop c60_l9))) (Rq [a 32 3,a 2 32]))))),[.tmp 2]⟩
structure StepN(h h':H):Prop where
 next:h.next<=h'.next
 old:∀b,b<h.next->h'.t.get b=h.t.get b
theorem StepN.refl(h:H):StepN h h:=⟨Nat.le_refl _,fun _ _=>rfl⟩
theorem StepN.trans{a b c:H}(h:StepN a b)(k:StepN b c):StepN a c:=⟨Nat.le_trans h.next k.next,fun x hx=>(k.old x (Nat.lt_of_lt_of_le hx h.next)).trans (h.old x hx)⟩
theorem StepN.new(h:H)(x:AO):StepN h ⟨h.next+1,h.t.set h.next x⟩:=⟨Nat.le_add_right _ _,fun b hb=>by
 have e1:¬b=h.next:=by omega
 simp only[go_sem,seval,e1]⟩
theorem w83{h:H}{L:Nat}(hL:L<h.next){cells:T AV}{n:Nat}{e:TypeId}(gL:h.t.get L=some (.row cells n e)){p0 p1 p2 p3 p4 p5 p6 p7 p8 p9:Int}
 (hg:getList cells 16 10=some [.int .i64 p0,.int .i64 p1,.int .i64 p2,.int .i64 p3,.int .i64 p4,.int .i64 p5,.int .i64 p6,.int .i64 p7,.int .i64 p8,.int .i64 p9]):
 WF P call c83 [.ptr L 0] h fun v h'=>v=.agg [.int .i64 p0,.int .i64 p1,.int .i64 p2,.int .i64 p3,.int .i64 p4,.int .i64 p5,.int .i64 p6,.int .i64 p7,.int .i64 p8,.int .i64 p9]∧StepN h h':=by
 have x1:¬L=h.next:=by omega
 simp only[go_sem,seval,x1,gL,hg]
 exact StepN.new h _
def I68(h0:H)(M:Nat)(ws:List Int)(n:Nat)(k:Nat)(tm:T AV)(h:H):Prop:=
 tm.get 0=some (.ptr M 0)∧tm.get 3=some (.sl h0.next 0 n 1 (some n))∧tm.get 17=some (.int .i64 (n:Int))∧h.next=h0.next+1∧(∀b,b<h0.next->h.t.get b=h0.t.get b)∧
    ∃(i:Nat) (cs:List AV),i+k=n∧tm.get 18=some (.int .i64 (i:Int))∧h.t.get h0.next=some (.row (putList 0 cs T.e) n 51)∧cs.length=n∧∀j x,j<i->ws[j]?=some x->cs[j]?=some (AV.int .u64 x)
def R68(h0:H)(ws:List Int)(tm:T AV)(h:H):Prop:=tm.get 3=some (.sl h0.next 0 ws.length 1 (some ws.length))∧StepN h0 h∧h0.next<h.next∧∃cs:List AV,h.t.get h0.next=some (.row (putList 0 cs T.e) ws.length 51)∧∀(j:Nat) (x:Int),ws[j]?=some x->cs[j]?=some (.int .u64 x)
theorem step68(P:Program){call:CallE}(h103:∀h W i (x:Int),(∃cs n e,h.t.get W=some (.row (putList 0 cs T.e) n e)∧cs[i]?=some (.int .u64 x))->call 143 [.ptr W i] h=some (.int .u64 x,h))
 {h0:H} {M W:Nat} {ws:List Int} (hm:MemH h0 M W ws) (hM:M<h0.next) (hW:W<h0.next) (hl2:ws.length<=65536) (k:Nat) (tm:T AV) (h:H) (hI:I68 h0 M ws ws.length k tm h):
 WC P call c60_l9 (loopQ 0 (fun tm h=>∃j,j<k∧I68 h0 M ws ws.length j tm h) (R68 h0 ws) (fun _ _=>False)) tm h:=by
 obtain⟨t0,t3,t17,nx,old,i,cs,hik,t18,gO,hcl,hcs⟩:=hI
 obtain⟨lg,gM,_⟩:=hm.ex
 have gM1:=(old M hM).trans gM
 have gW1:=(old W hW).trans hm.w
 cases k with
 |zero=>
  have e1:¬(i:Int)<(ws.length:Int):=by omega
  simp only[go_sem,seval,c60_l9,t17,t18,e1]
  exact⟨t3,⟨by omega,old⟩,by omega,cs,gO,fun j x hx=>hcs j x (by have:=(List.getElem?_eq_some_iff.1 hx).1;omega) hx⟩
 |succ k=>
  have e1:(i:Int)<(ws.length:Int):=by omega
  have hi:i<ws.length:=by omega
  have hi2:i<cs.length:=by omega
  have hr:=h103 h W i ws[i] ⟨_,_,_,gW1,by rw[List.getElem?_map,List.getElem?_eq_getElem hi];rfl⟩
  have f1:fw .i64 ((i:Int)+1)=(i:Int)+1:=fwI (by omega) (by omega)
  have e3:((i+1:Nat):Int)=(i:Int)+1:=rfl
  have hi3:i+1<=ws.length:=hi
  simp only[go_sem,seval,c60_l9,t0,t3,t17,t18,e1,Nat.mul_one,gM1,hr,gO,hcl,hi3,f1]
  refine⟨k,Nat.lt_succ_self k,by simp[go_sem,t0],by simp[go_sem,t3],by simp[go_sem,t17],nx,fun b hb=>?_,i+1,cs.set i (.int .u64 ws[i]),by omega,by simp[go_sem,e3],?_,by rw[List.length_set];exact hcl,fun j x hj hx=>?_⟩
  ·have e0:¬b=h0.next:=by omega
   simp only[go_sem,seval,e0]
   exact old b hb
  ·simp only[go_sem,seval,hi2]
  ·by_cases hji:j=i
   ·subst hji
    rw[List.getElem?_eq_getElem hi]at hx
    rw[List.getElem?_set_self hi2,←Option.some.inj hx]
   ·rw[List.getElem?_set_ne (by omega)]
    exact hcs j x (by omega) hx
def Post60(ws:List Int)(h:H)(v:AV)(h':H):Prop:=StepN h h'∧∃O,v=.sl O 0 ws.length 1 (some ws.length)∧O<h'.next∧∃cs:List AV,h'.t.get O=some (.row (putList 0 cs T.e) ws.length 51)∧∀(j:Nat) (x:Int),ws[j]?=some x->cs[j]?=some (.int .u64 x)
theorem w60(h103:∀h W i (x:Int),(∃cs n e,h.t.get W=some (.row (putList 0 cs T.e) n e)∧cs[i]?=some (.int .u64 x))->call 143 [.ptr W i] h=some (.int .u64 x,h))
 {h:H} {M W:Nat} {ws:List Int} (hm:MemH h M W ws) (hM:M<h.next) (hW:W<h.next) (hl2:ws.length<=65536):WF P call c60 [.ptr M 0] h (Post60 ws h):=by
 obtain⟨lg,gM,_⟩:=id hm.ex
 have e1:8*ws.length<=281474976710656:=by omega
 have e2:ws.length<=281474976710656:=by omega
 have x1:¬M=h.next:=by omega
 simp only[go_sem,seval,gM,evLenN,rep_one,Nat.mul_one,Nat.le_refl,e1,e2,decide_true,Bool.and_self,cond_true,x1]
 refine loop_in (I68 h M ws ws.length) _ _ (fun k tm h' hI=>step68 P h103 hm hM hW hl2 k tm h' hI) (fun tm2 h2 hR=>?_) (fun _ _ hh=>hh.elim) ws.length _ _
  ⟨by simp[go_sem],by simp[go_sem],by simp[go_sem],rfl,fun b hb=>?_,0,List.replicate ws.length (.int .u64 0),by omega,by simp[go_sem],by simp[go_sem],List.length_replicate,fun j x hj=>by omega⟩
 ·obtain⟨t3,st,lO,cs,g,hcs⟩:=hR
  simp only[go_sem,seval,t3]
  exact⟨st,_,rfl,lO,cs,g,hcs⟩
 ·have e0:¬b=h.next:=by omega
  simp only[go_sem,seval,e0]
@[go_sem]def c231:CF:=⟨3,(Sq [G 6] (Rq [a 7 0,a 8 1,zw 9 3 7 8,a 10 9,B 11 10 0,B 12 10 2,zx 13 10 3 11 12,O 14 10 13,a 6 14])),[.tmp 6]⟩
def c188_l9:CC:=(Sq [qb 9 3 8 7] (Qq (Cq 9 .skip (.exit 0)) (Qq (.block 1 (Sq [E 10 1 6 8,i 11 10,a 5 11] (Qq (Sq [a 12 5,a 13 3,zf 14 51 12 13] (Kq 14 [G 2] .skip)) (Oq [a 15 5,a 3 15])))) (Oq [C 16 3 8 1,a 8 16]))))
@[go_sem]def c188:CF:=⟨1,(Sq [G 2] (Sq [qk 3 0] (Qq (Sq [a 6 0,A 7 6,b 8 0] (.block 0 (.loop c188_l9))) (Rq [qx 2])))),[.tmp 2]⟩
@[go_sem]def c112:CF:=⟨1,(Sq [w 1 24 0,b 2 0] (Sq [G 3] (Qq (Sq [d 4 0 1,i 5 4] (.block 0 (Sq [J 7 5 5 1,a 6 7] (Cq 6 (Oq [d 8 1 1,i 9 8,U 10 3 9 0,a 11 10,W 12 11 2 1,Y 13 11 12,ql 14 11 13,qP 15 11 3 14 0,O 16 11 15,a 3 16]) (Sq [J 18 5 5 2,a 17 18] (Cq 17 (Oq [d 19 1 1,i 20 19,qC 21 3 20 1,a 22 21,W 23 22 1 1,Y 24 22 23,zT 25 22 3 24 64,O 26 22 25,a 27 26,W 28 27 2 1,Y 29 27 28,ql 30 27 29,qP 31 27 3 30 0,O 32 27 31,a 3 32]) (Sq [J 34 5 5 3,a 33 34] (Cq 33 (Oq [d 35 1 1,i 36 35,U 37 3 36 0,a 38 37,W 39 38 2 1,Y 40 38 39,ql 41 38 40,⟨some 42,some (38,true),.p (.bin .geq 3 false true (.t 41) (.c (.int .i64 1)))⟩,O 43 38 42,a 44 43,W 45 44 2 1,Y 46 44 45,ql 47 44 46,qy 48 44 3 47 64,O 49 44 48,a 50 49,W 51 50 2 1,Y 52 50 51,zy 53 50 188 52,O 54 50 53,a 3 54]) .skip)))))))) (Qq (Sq [a 55 3,qe 56 55] (Kq 56 [b 2 2] .skip)) (Rq [b 2 0]))))),[.tmp 2]⟩
def c153_l12:CC:=(Sq [K 19 3 18 6] (Qq (Cq 19 .skip (.exit 0)) (Qq (.block 1 (Sq [zV 20 6 3 1 17 18,a 6 20] (Qq (Sq [a 21 6,K 22 3 21 0,a 23 22,s 24 23 6,s 25 23 4,zz 26 23 3 24 25,r 27 23 26] (Kq 27 [b 2 2] .skip)) (Oq [a 28 4,a 29 6,qH 30 3 28 29,a 4 30])))) (Oq [C 31 3 18 1,a 18 31]))))
@[go_sem]def c153:CF:=⟨1,(Sq [w 1 27 0,b 2 0] (Sq [d 7 3 1,i 8 7,U 9 3 8 0,a 3 9] (Qq (Sq [d 10 2 1,i 11 10,J 12 5 11 3] (Cq 12 (Oq [d 13 3 1,i 14 13,zU 15 231 14 1 16,a 3 15]) .skip)) (Sq [b 4 1024] (Qq (Sq [d 16 7 1,V 17 6 16,b 18 0] (.block 0 (.loop c153_l12))) (Qq (Sq [d 32 0 1,i 33 32,zU 34 231 33 1 64,qe 35 34,a 36 35,M 37 36 1 1,L 38 36 37,zg 39 36 231 38 1 64,q2 40 36 39,r 41 36 40,a 42 41,M 43 42 2 1,L 44 42 43,zA 45 42 5 44 1,r 46 42 45,a 47 46,M 48 47 2 1,L 49 47 48,q3 50 47 5 49 3,r 51 47 50,a 52 51,s 53 52 3,q2 54 52 53,r 55 52 54,a 56 55,M 57 56 4 1,⟨some 58,some (56,false),.r (.ld (some 3) (.t 57))⟩,q4 59 56 112 58,zW 60 56 54 59 0,r 61 56 60,a 62 61,M 63 62 13 1,L 64 62 63,zg 65 62 231 64 1 16,q2 66 62 65,r 67 62 66,a 68 67,M 69 68 14 1,L 70 68 69,zg 71 68 231 70 1 255,q2 72 68 71,r 73 68 72,a 74 73,M 75 74 15 1,L 76 74 75,zg 77 74 231 76 0 64,q2 78 74 77,r 79 74 78] (Kq 79 [b 2 2] .skip)) (Rq [b 2 0]))))))),[.tmp 2]⟩
def RdL(agg:Option Nat)(es:Nat)(h:H)(v:AV)(xs:List AV):Prop:=
 (v=.nils∧xs=[])∨∃a o cap,v=.sl a o xs.length es cap∧xs.length<=281474976710656∧∀(i:Nat) x,xs[i]?=some x->ldA h.t.get agg a (o+i*es)=some x
theorem RdL.lenA{agg:Option Nat}{es:Nat}{h:H}{v:AV}{xs:List AV}(r:RdL agg es h v xs):lenA v=some (.int .i64 (xs.length:Int)):=by
 rcases r with⟨rfl,rfl⟩|⟨a,o,cap,rfl,_⟩<;>rfl
theorem RdL.le{agg:Option Nat}{es:Nat}{h:H}{v:AV}{xs:List AV}(r:RdL agg es h v xs):xs.length<=281474976710656:=by
 rcases r with⟨rfl,rfl⟩|⟨a,o,cap,rfl,h1,_⟩
 ·exact Nat.zero_le _
 ·exact h1
theorem Own.rdl1{e:TypeId}{h:H}{v:AV}{len:Nat}{cs:List AV}(o:Own 1 e h v len cs)(hl:len<=281474976710656):RdL none 1 h v cs:=by
 cases o with
 |nil=>exact .inl ⟨rfl,rfl⟩
 |sl a len cs cap hc h0 hlen ha hg=>
  refine .inr ⟨a,0,cap,by rw[hlen,Nat.mul_one],by omega,fun i x hi=>?_⟩
  rw[rLdA,hg,rBoth1,rLdO,rowGet,Nat.zero_add,Nat.mul_one]
  exact hi
theorem RdL.keep{agg:Option Nat}{es:Nat}{h h':H}{v:AV}{xs:List AV}(r:RdL agg es h v xs)(hk:∀b,own v=some b->h'.t.get b=h.t.get b):RdL agg es h' v xs:=by
 rcases r with⟨rfl,rfl⟩|⟨a,o,cap,rfl,h1,h2⟩
 ·exact .inl ⟨rfl,rfl⟩
 ·exact .inr ⟨a,o,cap,rfl,h1,fun i x hi=>by have:=h2 i x hi;rw[rLdA]at this⊢;rw[hk a rfl];exact this⟩
theorem RdL.one{agg:Option Nat}{es:Nat}{h:H}{v:AV}{xs:List AV}(r:RdL agg es h v xs):oneA v=true:=by
 rcases r with⟨rfl,rfl⟩|⟨a,o,cap,rfl,_⟩<;>rfl
structure CfgT where
 threads:Int
 slots:Int
 engine:Int
 buckets:Int
 kind:Int
 n:Int
 cuts:List Int
 t0:Int
 t1:Int
 t2:Int
 t3:Int
 t4:Int
 t5:Int
 locks:Int
 tries:Int
 batch:Int
def cfgC(c:CfgT)(v:AV):List AV:=[.int .i64 c.threads,.int .i64 c.slots,.int .u8 c.engine,.int .i64 c.buckets,.int .u8 c.kind,.int .i64 c.n,v,.int .i64 c.t0,.int .i64 c.t1,.int .i64 c.t2,.int .i64 c.t3,.int .i64 c.t4,.int .i64 c.t5,.int .i64 c.locks,.int .i64 c.tries,.int .i64 c.batch]
theorem w231(P:Program){call:CallE}{h:H}(n a b:Int):WF P call c231 [.int .i64 n,.int .i64 a,.int .i64 b] h fun v h'=>v=.bool (decide (a<=n∧n<=b))∧h'=h:=by
 simp only[go_sem,seval]
 by_cases h1:n<a
 ·have h3:¬(a<=n∧n<=b):=by omega
  simp only[go_sem,seval,h1,h3]
 ·by_cases h2:b<n
  ·have h3:¬(a<=n∧n<=b):=by omega
   simp only[go_sem,seval,h1,h2,h3]
  ·have h3:a<=n∧n<=b:=by omega
   simp only[go_sem,seval,h1,h2,h3]
def ascB:Int->List Int->Bool
 |_,[]=>true
 |a,x::l=>if x<=a then false else ascB x l
def I155(h0:H)(v:AV)(l:List Int)(k:Nat)(tm:T AV)(h:H):Prop:=
 h=h0∧∃(i:Nat) (a:Int),i+k=l.length∧tm.get 6=some v∧tm.get 7=some (.int .i64 (l.length:Int))∧tm.get 8=some (.int .i64 (i:Int))∧tm.get 3=some (.int .u64 a)∧ascB 0 l=ascB a (l.drop i)
theorem step155(P:Program){call:CallE}{h0:H}{v:AV}{l:List Int}(hv:RdL none 1 h0 v (l.map fun x:Int=>AV.int .u64 x))(k:Nat)(tm:T AV)(h:H)(hI:I155 h0 v l k tm h):
 WC P call c188_l9 (loopQ 0 (fun tm h=>∃j,j<k∧I155 h0 v l j tm h) (fun tm h=>h=h0∧ascB 0 l=true) (fun tm h=>h=h0∧ascB 0 l=false∧tm.get 2=some (.bool false))) tm h:=by
 obtain⟨rfl,i,a,hik,t6,t7,t8,t3,hasc⟩:=hI
 have hle:=hv.le
 rw[List.length_map]at hle
 cases k with
 |zero=>
  have e1:¬(i:Int)<(l.length:Int):=by omega
  simp only[go_sem,seval,c188_l9,t7,t8,e1]
  rw[hasc,List.drop_eq_nil_of_le (by omega)]
  rfl
 |succ k=>
  have e1:(i:Int)<(l.length:Int):=by omega
  have hi:i<l.length:=by omega
  rcases hv with⟨_,hh⟩|⟨b,o,cap,rfl,_,ra⟩
  ·rw[List.map_eq_nil_iff]at hh;subst hh;simp at hi
  have ha:=ra i (.int .u64 l[i]) (by simp[hi])
  rw[rLdA,Nat.mul_one]at ha
  rw[List.length_map]at t6
  rw[List.drop_eq_getElem_cons hi]at hasc
  have f1:fw .i64 ((i:Int)+1)=(i:Int)+1:=fwI (by omega) (by omega)
  have e3:((i+1:Nat):Int)=(i:Int)+1:=rfl
  simp only[go_sem,seval,c188_l9,t6,t7,t8,t3,e1,Nat.mul_one,ha]
  by_cases hx:l[i]<=a
  ·have hx2:¬a<l[i]:=by omega
   simp only[go_sem,seval,hx2]
   rw[hasc,ascB,if_pos hx]
  ·have hx2:a<l[i]:=by omega
   simp only[go_sem,seval,hx2,t8,f1]
   refine⟨k,Nat.lt_succ_self k,rfl,i+1,l[i],by omega,?_,?_,?_,?_,by rw[hasc,ascB,if_neg hx]⟩
   ·simp only[go_sem,seval,t6,List.length_map]
   ·simp only[go_sem,seval,t7]
   ·simp only[go_sem,seval,e3]
   ·simp only[go_sem,seval]
theorem w188(P:Program){call:CallE}{h:H}{v:AV}{l:List Int}(hv:RdL none 1 h v (l.map fun x:Int=>AV.int .u64 x)):WF P call c188 [v] h fun v' h'=>v'=.bool (ascB 0 l)∧h'=h:=by
 have hvl:=hv.lenA
 rw[List.length_map]at hvl
 simp only[go_sem,seval,c188,hvl]
 refine loop_in (I155 h v l) (fun tm h'=>h'=h∧ascB 0 l=true) (fun tm h'=>h'=h∧ascB 0 l=false∧tm.get 2=some (.bool false)) (fun k tm h' hI=>step155 P hv k tm h' hI) (fun tm2 h2 hR=>?_) (fun tm2 h2 hS=>?_) l.length _ _
  ⟨rfl,0,0,by omega,?_,?_,?_,?_,rfl⟩
 ·obtain⟨rfl,e⟩:=hR
  simp only[go_sem,seval,e]
 ·obtain⟨rfl,e,t2⟩:=hS
  simp only[go_sem,seval,t2,e]
 ·simp only[go_sem,seval]
 ·simp only[go_sem,seval]
 ·simp only[go_sem,seval]
 ·simp only[go_sem,seval]
def SaysE(p:Prop)(h:H)(v:AV)(h':H):Prop:=∃e:Int,v=.int .i64 e∧(e=0↔p)∧StepN h h'
def domB(k n:Int)(cuts:List Int):Prop:=(k=1∧n=0∧cuts=[])∨(k=2∧(1<=n∧n<=64)∧cuts=[])∨(k=3∧n=0∧1<=cuts.length∧cuts.length<64∧ascB 0 cuts=true)
theorem w112(P:Program){call:CallE}(h155:∀h v (l:List Int),RdL none 1 h v (l.map fun x:Int=>AV.int .u64 x)->call 188 [v] h=some (.bool (ascB 0 l),h))
 {h:H} {k n:Int} {v:AV} {l:List Int} (hv:RdL none 1 h v (l.map fun x:Int=>AV.int .u64 x)) (hlv:∀a,own v=some a->a<h.next):
 WF P call c112 [.agg [.int .u8 k,.int .i64 n,v]] h (SaysE (domB k n l) h):=by
 have ov:=hv.one
 have hvl:=hv.lenA
 rw[List.length_map]at hvl
 have st:∀x,StepN h ⟨h.next+1,h.t.set h.next x⟩:=fun x=>⟨Nat.le_add_right _ _,fun b hb=>by
  have e1:¬b=h.next:=by omega
  simp only[go_sem,seval,e1]⟩
 have h155':=fun x=>h155 ⟨h.next+1,h.t.set h.next x⟩ v l (hv.keep fun b hb=>(st x).old b (hlv b hb))
 have ln:((l.length:Int)=0)=(l=[]):=by rw[←List.length_eq_zero_iff];apply propext;omega
 by_cases k1:k=1
 ·subst k1
  by_cases n0:n=0
  ·by_cases l0:l=[]
   ·simp only[go_sem,seval,ov,hvl,n0,ln,l0]
    exact⟨0,rfl,by simp[domB],st _⟩
   ·simp only[go_sem,seval,ov,hvl,n0,ln,l0]
    exact⟨2,rfl,by simp[domB,l0],st _⟩
  ·simp only[go_sem,seval,ov,hvl,n0,ln]
   exact⟨2,rfl,by simp[domB,n0],st _⟩
 by_cases k2:k=2
 ·subst k2
  by_cases n1:n<1
  ·simp only[go_sem,seval,ov,hvl,n1,ln]
   exact⟨2,rfl,by simp[domB];intro h1 h2 h3;omega,st _⟩
  ·by_cases n2:64<n
   ·simp only[go_sem,seval,ov,hvl,n1,n2,ln]
    exact⟨2,rfl,by simp[domB];intro h1 h2 h3;omega,st _⟩
   ·by_cases l0:l=[]
    ·simp only[go_sem,seval,ov,hvl,n1,n2,ln,l0]
     exact⟨0,rfl,by simp[domB];omega,st _⟩
    ·simp only[go_sem,seval,ov,hvl,n1,n2,ln,l0]
     exact⟨2,rfl,by simp[domB,l0],st _⟩
 by_cases k3:k=3
 ·subst k3
  by_cases n0:n=0
  ·by_cases l1:(l.length:Int)<1
   ·simp only[go_sem,seval,ov,hvl,n0,l1]
    have hn:¬domB 3 0 l:=by rintro (⟨h1,_⟩|⟨h1,_⟩|⟨_,_,h3,h4,_⟩)<;>omega
    exact⟨2,rfl,by simp[hn],st _⟩
   ·by_cases l2:(l.length:Int)<64
    ·simp only[go_sem,seval,ov,hvl,n0,l1,l2]
     refine opt_some (h155' _) ?_
     cases ha:ascB 0 l with
     |true=>
      simp only[go_sem,seval]
      exact⟨0,rfl,by simp[domB,ha];omega,st _⟩
     |false=>
      simp only[go_sem,seval]
      exact⟨2,rfl,by simp[domB,ha],st _⟩
    ·simp only[go_sem,seval,ov,hvl,n0,l1,l2]
     have hn:¬domB 3 0 l:=by rintro (⟨h1,_⟩|⟨h1,_⟩|⟨_,_,h3,h4,_⟩)<;>omega
     exact⟨2,rfl,by simp[hn],st _⟩
  ·simp only[go_sem,seval,ov,hvl,n0]
   exact⟨2,rfl,by simp[domB,n0],st _⟩
 simp only[go_sem,seval,ov,hvl,k1,k2,k3]
 exact⟨2,rfl,by simp[domB,k1,k2,k3],st _⟩
def towB:Int->List Int->Prop
 |_,[]=>True
 |a,t::l=>(0<=t∧t<=a)∧towB (a-t) l
def layB(c:CfgT):Prop:=towB 1024 [c.t0,c.t1,c.t2,c.t3,c.t4,c.t5]∧(1<=c.threads∧c.threads<=64)∧(1<=c.slots∧c.slots<=64)∧1<=c.engine∧c.engine<=3∧(c.engine=3->1<=c.buckets∧c.buckets<=16)∧(c.engine≠3->c.buckets=0)∧domB c.kind c.n c.cuts∧(1<=c.locks∧c.locks<=16)∧(1<=c.tries∧c.tries<=255)∧0<=c.batch∧c.batch<=64
theorem fl1:fw .i64 1=1:=rfl
theorem fl2:fw .i64 2=2:=rfl
theorem fl3:fw .i64 3=3:=rfl
theorem fl4:fw .i64 4=4:=rfl
theorem fl5:fw .i64 5=5:=rfl
theorem fl6:fw .i64 6=6:=rfl
theorem part3(P:Program)[p:PT P](l:List AV)(i:Nat):partA P 3 l i=l[i]?:=by unfold partA;rw[p.agg3]
set_option maxRecDepth 10000 in
theorem w153_0(h98:∀h n a b,call 231 [.int .i64 n,.int .i64 a,.int .i64 b] h=some (.bool (decide (a<=n∧n<=b)),h))
 (h99:∀h k n v (l:List Int),RdL none 1 h v (l.map fun x:Int=>AV.int .u64 x)->(∀a,own v=some a->a<h.next)->∃v' h',call 112 [.agg [.int .u8 k,.int .i64 n,v]] h=some (v',h')∧SaysE (domB k n l) h v' h')
 {h:H} {c:CfgT} {v:AV} (hv:RdL none 1 h v (c.cuts.map fun x:Int=>AV.int .u64 x)) (hlv:∀a,own v=some a->a<h.next) (hg:¬c.engine=3):
 WF P call c153 [.agg (cfgC c v)] h (SaysE (layB c) h):=by
 have ov:=hv.one
 have st:∀x,StepN h ⟨h.next+1,h.t.set h.next x⟩:=fun x=>⟨Nat.le_add_right _ _,fun b hb=>by
  have e1:¬b=h.next:=by omega
  simp only[go_sem,seval,e1]⟩
 have bad:∀(p:Prop) x,¬p->SaysE p h (.int .i64 2) ⟨h.next+1,h.t.set h.next x⟩:=fun p x hp=>⟨2,rfl,by simp[hp],st x⟩
 simp only[go_sem,seval,ov,cfgC,hg,h98]
 refine unroll 7 ?_
 simp only[go_sem,seval,c153_l12,part3]
 by_cases a0:c.t0<0
 case pos=>
  simp only[go_sem,seval,c153_l12,part3,fl1,fl2,fl3,fl4,fl5,fl6,a0]
  exact bad _ _ (by rintro ⟨ht,_⟩;simp only[towB]at ht;omega)
 by_cases b0:1024<c.t0
 case pos=>
  simp only[go_sem,seval,c153_l12,part3,fl1,fl2,fl3,fl4,fl5,fl6,a0,b0]
  exact bad _ _ (by rintro ⟨ht,_⟩;simp only[towB]at ht;omega)
 have f0:fw .i64 (1024-c.t0)=1024-c.t0:=fwI (by omega) (by omega)
 simp only[go_sem,seval,c153_l12,part3,fl1,fl2,fl3,fl4,fl5,fl6,a0,b0,f0]
 by_cases a1:c.t1<0
 case pos=>
  simp only[go_sem,seval,c153_l12,part3,fl1,fl2,fl3,fl4,fl5,fl6,a0,b0,f0,a1]
  exact bad _ _ (by rintro ⟨ht,_⟩;simp only[towB]at ht;omega)
 by_cases b1:1024-c.t0<c.t1
 case pos=>
  simp only[go_sem,seval,c153_l12,part3,fl1,fl2,fl3,fl4,fl5,fl6,a0,b0,f0,a1,b1]
  exact bad _ _ (by rintro ⟨ht,_⟩;simp only[towB]at ht;omega)
 have f1:fw .i64 (1024-c.t0-c.t1)=1024-c.t0-c.t1:=fwI (by omega) (by omega)
 simp only[go_sem,seval,c153_l12,part3,fl1,fl2,fl3,fl4,fl5,fl6,a0,b0,f0,a1,b1,f1]
 by_cases a2:c.t2<0
 case pos=>
  simp only[go_sem,seval,c153_l12,part3,fl1,fl2,fl3,fl4,fl5,fl6,a0,b0,f0,a1,b1,f1,a2]
  exact bad _ _ (by rintro ⟨ht,_⟩;simp only[towB]at ht;omega)
 by_cases b2:1024-c.t0-c.t1<c.t2
 case pos=>
  simp only[go_sem,seval,c153_l12,part3,fl1,fl2,fl3,fl4,fl5,fl6,a0,b0,f0,a1,b1,f1,a2,b2]
  exact bad _ _ (by rintro ⟨ht,_⟩;simp only[towB]at ht;omega)
 have f2:fw .i64 (1024-c.t0-c.t1-c.t2)=1024-c.t0-c.t1-c.t2:=fwI (by omega) (by omega)
 simp only[go_sem,seval,c153_l12,part3,fl1,fl2,fl3,fl4,fl5,fl6,a0,b0,f0,a1,b1,f1,a2,b2,f2]
 by_cases a3:c.t3<0
 case pos=>
  simp only[go_sem,seval,c153_l12,part3,fl1,fl2,fl3,fl4,fl5,fl6,a0,b0,f0,a1,b1,f1,a2,b2,f2,a3]
  exact bad _ _ (by rintro ⟨ht,_⟩;simp only[towB]at ht;omega)
 by_cases b3:1024-c.t0-c.t1-c.t2<c.t3
 case pos=>
  simp only[go_sem,seval,c153_l12,part3,fl1,fl2,fl3,fl4,fl5,fl6,a0,b0,f0,a1,b1,f1,a2,b2,f2,a3,b3]
  exact bad _ _ (by rintro ⟨ht,_⟩;simp only[towB]at ht;omega)
 have f3:fw .i64 (1024-c.t0-c.t1-c.t2-c.t3)=1024-c.t0-c.t1-c.t2-c.t3:=fwI (by omega) (by omega)
 simp only[go_sem,seval,c153_l12,part3,fl1,fl2,fl3,fl4,fl5,fl6,a0,b0,f0,a1,b1,f1,a2,b2,f2,a3,b3,f3]
 by_cases a4:c.t4<0
 case pos=>
  simp only[go_sem,seval,c153_l12,part3,fl1,fl2,fl3,fl4,fl5,fl6,a0,b0,f0,a1,b1,f1,a2,b2,f2,a3,b3,f3,a4]
  exact bad _ _ (by rintro ⟨ht,_⟩;simp only[towB]at ht;omega)
 by_cases b4:1024-c.t0-c.t1-c.t2-c.t3<c.t4
 case pos=>
  simp only[go_sem,seval,c153_l12,part3,fl1,fl2,fl3,fl4,fl5,fl6,a0,b0,f0,a1,b1,f1,a2,b2,f2,a3,b3,f3,a4,b4]
  exact bad _ _ (by rintro ⟨ht,_⟩;simp only[towB]at ht;omega)
 have f4:fw .i64 (1024-c.t0-c.t1-c.t2-c.t3-c.t4)=1024-c.t0-c.t1-c.t2-c.t3-c.t4:=fwI (by omega) (by omega)
 simp only[go_sem,seval,c153_l12,part3,fl1,fl2,fl3,fl4,fl5,fl6,a0,b0,f0,a1,b1,f1,a2,b2,f2,a3,b3,f3,a4,b4,f4]
 by_cases a5:c.t5<0
 case pos=>
  simp only[go_sem,seval,c153_l12,part3,fl1,fl2,fl3,fl4,fl5,fl6,a0,b0,f0,a1,b1,f1,a2,b2,f2,a3,b3,f3,a4,b4,f4,a5]
  exact bad _ _ (by rintro ⟨ht,_⟩;simp only[towB]at ht;omega)
 by_cases b5:1024-c.t0-c.t1-c.t2-c.t3-c.t4<c.t5
 case pos=>
  simp only[go_sem,seval,c153_l12,part3,fl1,fl2,fl3,fl4,fl5,fl6,a0,b0,f0,a1,b1,f1,a2,b2,f2,a3,b3,f3,a4,b4,f4,a5,b5]
  exact bad _ _ (by rintro ⟨ht,_⟩;simp only[towB]at ht;omega)
 have f5:fw .i64 (1024-c.t0-c.t1-c.t2-c.t3-c.t4-c.t5)=1024-c.t0-c.t1-c.t2-c.t3-c.t4-c.t5:=fwI (by omega) (by omega)
 simp only[go_sem,seval,c153_l12,part3,fl1,fl2,fl3,fl4,fl5,fl6,a0,b0,f0,a1,b1,f1,a2,b2,f2,a3,b3,f3,a4,b4,f4,a5,b5,f5]
 have ht:towB 1024 [c.t0,c.t1,c.t2,c.t3,c.t4,c.t5]:=by simp only[towB,and_true];omega
 by_cases c1:1<=c.threads∧c.threads<=64
 case neg=>
  simp only[go_sem,seval,h98,c1]
  exact bad _ _ (by rintro ⟨_,q1,q2,q3,q4,q5,q6,q7,q8,q9,q10⟩;omega)
 by_cases c2:1<=c.slots∧c.slots<=64
 case neg=>
  simp only[go_sem,seval,h98,c1,c2]
  exact bad _ _ (by rintro ⟨_,q1,q2,q3,q4,q5,q6,q7,q8,q9,q10⟩;omega)
 by_cases c93:c.engine<1
 case pos=>
  simp only[go_sem,seval,h98,c1,c2,c93]
  exact bad _ _ (by rintro ⟨_,q1,q2,q3,q4,q5,q6,q7,q8,q9,q10⟩;omega)
 by_cases c94:3<c.engine
 case pos=>
  simp only[go_sem,seval,h98,c1,c2,c93,c94]
  exact bad _ _ (by rintro ⟨_,q1,q2,q3,q4,q5,q6,q7,q8,q9,q10⟩;omega)
 by_cases c167:c.buckets=0
 case neg=>
  simp only[go_sem,seval,h98,c1,c2,c93,c94,c167]
  exact bad _ _ (by rintro ⟨_,q1,q2,q3,q4,q5,q6,q7,q8,q9,q10⟩;exact c167 (q6 hg))
 simp only[go_sem,seval,h98,c1,c2,c93,c94,c167]
 refine opt_by (h99 _ c.kind c.n v c.cuts (hv.keep fun b hb=>(st _).old b (hlv b hb)) (fun a ha=>Nat.lt_of_lt_of_le (hlv a ha) (st _).next)) fun v1 h1 p1=>?_
 obtain⟨e,rfl,he,st1⟩:=p1
 have stn:=(st _).trans st1
 have g0:=st1.old h.next (by show h.next<h.next+1;omega)
 simp only[go_sem,seval]at g0
 have bad2:∀p:Prop,¬p->SaysE p h (.int .i64 2) h1:=fun p hp=>⟨2,rfl,by simp[hp],stn⟩
 by_cases d0:e=0
 case neg=>
  simp only[go_sem,seval,d0,g0,h98]
  exact bad2 _ (by rintro ⟨_,q1,q2,q3,q4,q5,q6,q7,q8,q9,q10⟩;exact d0 (he.2 q7))
 have dd:=he.1 d0
 by_cases d1:1<=c.locks∧c.locks<=16
 case neg=>
  simp only[go_sem,seval,g0,h98,d0,d1]
  exact bad2 _ (by rintro ⟨_,q1,q2,q3,q4,q5,q6,q7,q8,q9,q10,q11⟩;omega)
 by_cases d2:1<=c.tries∧c.tries<=255
 case neg=>
  simp only[go_sem,seval,g0,h98,d0,d1,d2]
  exact bad2 _ (by rintro ⟨_,q1,q2,q3,q4,q5,q6,q7,q8,q9,q10,q11⟩;omega)
 by_cases d3:0<=c.batch∧c.batch<=64
 case neg=>
  simp only[go_sem,seval,g0,h98,d0,d1,d2,d3]
  exact bad2 _ (by rintro ⟨_,q1,q2,q3,q4,q5,q6,q7,q8,q9,q10,q11⟩;omega)
 simp only[go_sem,seval,g0,h98,d0,d1,d2,d3]
 exact⟨0,rfl,by simp only[true_iff];exact⟨ht,c1,c2,by omega,by omega,by intro q;exact absurd q hg,by intro _;exact c167,dd,d1,d2,d3.1,d3.2⟩,stn⟩
set_option maxRecDepth 10000 in
theorem w153_1(h98:∀h n a b,call 231 [.int .i64 n,.int .i64 a,.int .i64 b] h=some (.bool (decide (a<=n∧n<=b)),h))
 (h99:∀h k n v (l:List Int),RdL none 1 h v (l.map fun x:Int=>AV.int .u64 x)->(∀a,own v=some a->a<h.next)->∃v' h',call 112 [.agg [.int .u8 k,.int .i64 n,v]] h=some (v',h')∧SaysE (domB k n l) h v' h')
 {h:H} {c:CfgT} {v:AV} (hv:RdL none 1 h v (c.cuts.map fun x:Int=>AV.int .u64 x)) (hlv:∀a,own v=some a->a<h.next) (hg:c.engine=3):
 WF P call c153 [.agg (cfgC c v)] h (SaysE (layB c) h):=by
 have ov:=hv.one
 have st:∀x,StepN h ⟨h.next+1,h.t.set h.next x⟩:=fun x=>⟨Nat.le_add_right _ _,fun b hb=>by
  have e1:¬b=h.next:=by omega
  simp only[go_sem,seval,e1]⟩
 have bad:∀(p:Prop) x,¬p->SaysE p h (.int .i64 2) ⟨h.next+1,h.t.set h.next x⟩:=fun p x hp=>⟨2,rfl,by simp[hp],st x⟩
 simp only[go_sem,seval,ov,cfgC,hg,h98]
 refine unroll 7 ?_
 simp only[go_sem,seval,c153_l12,part3]
 by_cases a0:c.t0<0
 case pos=>
  simp only[go_sem,seval,c153_l12,part3,fl1,fl2,fl3,fl4,fl5,fl6,a0]
  exact bad _ _ (by rintro ⟨ht,_⟩;simp only[towB]at ht;omega)
 by_cases b0:1024<c.t0
 case pos=>
  simp only[go_sem,seval,c153_l12,part3,fl1,fl2,fl3,fl4,fl5,fl6,a0,b0]
  exact bad _ _ (by rintro ⟨ht,_⟩;simp only[towB]at ht;omega)
 have f0:fw .i64 (1024-c.t0)=1024-c.t0:=fwI (by omega) (by omega)
 simp only[go_sem,seval,c153_l12,part3,fl1,fl2,fl3,fl4,fl5,fl6,a0,b0,f0]
 by_cases a1:c.t1<0
 case pos=>
  simp only[go_sem,seval,c153_l12,part3,fl1,fl2,fl3,fl4,fl5,fl6,a0,b0,f0,a1]
  exact bad _ _ (by rintro ⟨ht,_⟩;simp only[towB]at ht;omega)
 by_cases b1:1024-c.t0<c.t1
 case pos=>
  simp only[go_sem,seval,c153_l12,part3,fl1,fl2,fl3,fl4,fl5,fl6,a0,b0,f0,a1,b1]
  exact bad _ _ (by rintro ⟨ht,_⟩;simp only[towB]at ht;omega)
 have f1:fw .i64 (1024-c.t0-c.t1)=1024-c.t0-c.t1:=fwI (by omega) (by omega)
 simp only[go_sem,seval,c153_l12,part3,fl1,fl2,fl3,fl4,fl5,fl6,a0,b0,f0,a1,b1,f1]
 by_cases a2:c.t2<0
 case pos=>
  simp only[go_sem,seval,c153_l12,part3,fl1,fl2,fl3,fl4,fl5,fl6,a0,b0,f0,a1,b1,f1,a2]
  exact bad _ _ (by rintro ⟨ht,_⟩;simp only[towB]at ht;omega)
 by_cases b2:1024-c.t0-c.t1<c.t2
 case pos=>
  simp only[go_sem,seval,c153_l12,part3,fl1,fl2,fl3,fl4,fl5,fl6,a0,b0,f0,a1,b1,f1,a2,b2]
  exact bad _ _ (by rintro ⟨ht,_⟩;simp only[towB]at ht;omega)
 have f2:fw .i64 (1024-c.t0-c.t1-c.t2)=1024-c.t0-c.t1-c.t2:=fwI (by omega) (by omega)
 simp only[go_sem,seval,c153_l12,part3,fl1,fl2,fl3,fl4,fl5,fl6,a0,b0,f0,a1,b1,f1,a2,b2,f2]
 by_cases a3:c.t3<0
 case pos=>
  simp only[go_sem,seval,c153_l12,part3,fl1,fl2,fl3,fl4,fl5,fl6,a0,b0,f0,a1,b1,f1,a2,b2,f2,a3]
  exact bad _ _ (by rintro ⟨ht,_⟩;simp only[towB]at ht;omega)
 by_cases b3:1024-c.t0-c.t1-c.t2<c.t3
 case pos=>
  simp only[go_sem,seval,c153_l12,part3,fl1,fl2,fl3,fl4,fl5,fl6,a0,b0,f0,a1,b1,f1,a2,b2,f2,a3,b3]
  exact bad _ _ (by rintro ⟨ht,_⟩;simp only[towB]at ht;omega)
 have f3:fw .i64 (1024-c.t0-c.t1-c.t2-c.t3)=1024-c.t0-c.t1-c.t2-c.t3:=fwI (by omega) (by omega)
 simp only[go_sem,seval,c153_l12,part3,fl1,fl2,fl3,fl4,fl5,fl6,a0,b0,f0,a1,b1,f1,a2,b2,f2,a3,b3,f3]
 by_cases a4:c.t4<0
 case pos=>
  simp only[go_sem,seval,c153_l12,part3,fl1,fl2,fl3,fl4,fl5,fl6,a0,b0,f0,a1,b1,f1,a2,b2,f2,a3,b3,f3,a4]
  exact bad _ _ (by rintro ⟨ht,_⟩;simp only[towB]at ht;omega)
 by_cases b4:1024-c.t0-c.t1-c.t2-c.t3<c.t4
 case pos=>
  simp only[go_sem,seval,c153_l12,part3,fl1,fl2,fl3,fl4,fl5,fl6,a0,b0,f0,a1,b1,f1,a2,b2,f2,a3,b3,f3,a4,b4]
  exact bad _ _ (by rintro ⟨ht,_⟩;simp only[towB]at ht;omega)
 have f4:fw .i64 (1024-c.t0-c.t1-c.t2-c.t3-c.t4)=1024-c.t0-c.t1-c.t2-c.t3-c.t4:=fwI (by omega) (by omega)
 simp only[go_sem,seval,c153_l12,part3,fl1,fl2,fl3,fl4,fl5,fl6,a0,b0,f0,a1,b1,f1,a2,b2,f2,a3,b3,f3,a4,b4,f4]
 by_cases a5:c.t5<0
 case pos=>
  simp only[go_sem,seval,c153_l12,part3,fl1,fl2,fl3,fl4,fl5,fl6,a0,b0,f0,a1,b1,f1,a2,b2,f2,a3,b3,f3,a4,b4,f4,a5]
  exact bad _ _ (by rintro ⟨ht,_⟩;simp only[towB]at ht;omega)
 by_cases b5:1024-c.t0-c.t1-c.t2-c.t3-c.t4<c.t5
 case pos=>
  simp only[go_sem,seval,c153_l12,part3,fl1,fl2,fl3,fl4,fl5,fl6,a0,b0,f0,a1,b1,f1,a2,b2,f2,a3,b3,f3,a4,b4,f4,a5,b5]
  exact bad _ _ (by rintro ⟨ht,_⟩;simp only[towB]at ht;omega)
 have f5:fw .i64 (1024-c.t0-c.t1-c.t2-c.t3-c.t4-c.t5)=1024-c.t0-c.t1-c.t2-c.t3-c.t4-c.t5:=fwI (by omega) (by omega)
 simp only[go_sem,seval,c153_l12,part3,fl1,fl2,fl3,fl4,fl5,fl6,a0,b0,f0,a1,b1,f1,a2,b2,f2,a3,b3,f3,a4,b4,f4,a5,b5,f5]
 have ht:towB 1024 [c.t0,c.t1,c.t2,c.t3,c.t4,c.t5]:=by simp only[towB,and_true];omega
 by_cases c1:1<=c.threads∧c.threads<=64
 case neg=>
  simp only[go_sem,seval,h98,c1]
  exact bad _ _ (by rintro ⟨_,q1,q2,q3,q4,q5,q6,q7,q8,q9,q10⟩;omega)
 by_cases c2:1<=c.slots∧c.slots<=64
 case neg=>
  simp only[go_sem,seval,h98,c1,c2]
  exact bad _ _ (by rintro ⟨_,q1,q2,q3,q4,q5,q6,q7,q8,q9,q10⟩;omega)
 have c93:¬c.engine<1:=by omega
 have c94:¬3<c.engine:=by omega
 by_cases c167:1<=c.buckets∧c.buckets<=16
 case neg=>
  simp only[go_sem,seval,h98,c1,c2,c93,c94,hg,c167]
  exact bad _ _ (by rintro ⟨_,q1,q2,q3,q4,q5,q6,q7,q8,q9,q10⟩;exact c167 (q5 hg))
 simp only[go_sem,seval,h98,c1,c2,c93,c94,hg,c167]
 refine opt_by (h99 _ c.kind c.n v c.cuts (hv.keep fun b hb=>(st _).old b (hlv b hb)) (fun a ha=>Nat.lt_of_lt_of_le (hlv a ha) (st _).next)) fun v1 h1 p1=>?_
 obtain⟨e,rfl,he,st1⟩:=p1
 have stn:=(st _).trans st1
 have g0:=st1.old h.next (by show h.next<h.next+1;omega)
 simp only[go_sem,seval]at g0
 have bad2:∀p:Prop,¬p->SaysE p h (.int .i64 2) h1:=fun p hp=>⟨2,rfl,by simp[hp],stn⟩
 by_cases d0:e=0
 case neg=>
  simp only[go_sem,seval,d0,g0,h98]
  exact bad2 _ (by rintro ⟨_,q1,q2,q3,q4,q5,q6,q7,q8,q9,q10⟩;exact d0 (he.2 q7))
 have dd:=he.1 d0
 by_cases d1:1<=c.locks∧c.locks<=16
 case neg=>
  simp only[go_sem,seval,g0,h98,d0,d1]
  exact bad2 _ (by rintro ⟨_,q1,q2,q3,q4,q5,q6,q7,q8,q9,q10,q11⟩;omega)
 by_cases d2:1<=c.tries∧c.tries<=255
 case neg=>
  simp only[go_sem,seval,g0,h98,d0,d1,d2]
  exact bad2 _ (by rintro ⟨_,q1,q2,q3,q4,q5,q6,q7,q8,q9,q10,q11⟩;omega)
 by_cases d3:0<=c.batch∧c.batch<=64
 case neg=>
  simp only[go_sem,seval,g0,h98,d0,d1,d2,d3]
  exact bad2 _ (by rintro ⟨_,q1,q2,q3,q4,q5,q6,q7,q8,q9,q10,q11⟩;omega)
 simp only[go_sem,seval,g0,h98,d0,d1,d2,d3]
 exact⟨0,rfl,by simp only[true_iff];exact⟨ht,c1,c2,by omega,by omega,by intro _;exact c167,by intro q;exact absurd hg q,dd,d1,d2,d3.1,d3.2⟩,stn⟩
theorem w153(h98:∀h n a b,call 231 [.int .i64 n,.int .i64 a,.int .i64 b] h=some (.bool (decide (a<=n∧n<=b)),h))
 (h99:∀h k n v (l:List Int),RdL none 1 h v (l.map fun x:Int=>AV.int .u64 x)->(∀a,own v=some a->a<h.next)->∃v' h',call 112 [.agg [.int .u8 k,.int .i64 n,v]] h=some (v',h')∧SaysE (domB k n l) h v' h')
 {h:H} {c:CfgT} {v:AV} (hv:RdL none 1 h v (c.cuts.map fun x:Int=>AV.int .u64 x)) (hlv:∀a,own v=some a->a<h.next):
 WF P call c153 [.agg (cfgC c v)] h (SaysE (layB c) h):=by
 by_cases hg:c.engine=3
 ·exact w153_1 P h98 h99 hv hlv hg
 ·exact w153_0 P h98 h99 hv hlv hg
def c130_l16:CC:=(Qq (Sq [a 57 3,d 58 2 1,i 59 58,A 60 59,qb 61 3 57 60] (Cq 61 .skip (.exit 1))) (Qq (.block 2 (Qq (.drw ⟨[([S 0 1 2,k 1 64 0,g 2 3,Q 3 65 1 66 2 1,k 4 67 3,S 5 1 2,k 6 69 5,g 7 3,qJ 8 71 7 3 1,Q 9 70 6 72 8 1,k 10 73 9,⟨11,[(68,some 4),(74,some 10)],none,.p (.bin .leq 51 false false (.t 68) (.t 74))⟩],none)],[(0,64),(1,65),(2,66),(3,67),(4,68),(5,69),(6,70),(7,71),(8,72),(9,73),(10,74),(11,75)],[]⟩) (Kq 75 [b 2 2] .skip))) (Oq [a 62 3,C 63 3 62 1,a 3 63])))
@[go_sem]def c130:CF:=⟨1,(Sq [w 1 24 0,b 2 0] (Qq (Sq [d 4 0 1,i 5 4] (.block 0 (Sq [J 7 5 5 1,a 6 7] (Cq 6 (Sq [d 8 1 1,i 9 8,U 10 3 9 0,a 11 10,W 12 11 2 1,Y 13 11 12,ql 14 11 13,qP 15 11 3 14 0,O 16 11 15] (Kq 16 [b 2 0] .skip)) (Sq [J 18 5 5 2,a 17 18] (Cq 17 (Sq [d 19 1 1,i 20 19,qC 21 3 20 1,a 22 21,W 23 22 1 1,Y 24 22 23,zT 25 22 3 24 64,O 26 22 25,a 27 26,W 28 27 2 1,Y 29 27 28,ql 30 27 29,qP 31 27 3 30 0,O 32 27 31] (Kq 32 [b 2 0] .skip)) (Sq [J 34 5 5 3,a 33 34] (Cq 33 (Qq (Sq [d 35 1 1,i 36 35,z 37 3 36 0,a 38 37,M 39 38 2 1,L 40 38 39,qO 41 38 40,qI 42 38 3 41 1,r 43 38 42,a 44 43,M 45 44 2 1,L 46 44 45,qO 47 44 46,qc 48 44 3 47 63,r 49 44 48,a 50 49,M 51 50 2 1,L 52 50 51,⟨some 53,some (50,false),.p (.iadrS 1 (.t 52) (.c (.int .i64 0)))⟩,L 54 50 53,zX 55 50 51 54 0,r 56 50 55] (Kq 56 [b 2 2] .skip)) (Qq (Sq [b 3 1] (.block 1 (.loop c130_l16))) (Rq [b 2 0]))) .skip)))))))) (Rq [b 2 2]))),[.tmp 2]⟩
def c167_l14:CC:=(Qq (Sq [a 60 4,K 61 3 60 6] (Cq 61 .skip (.exit 0))) (Qq (.block 1 (Qq (Sq [a 64 4,d 65 7 1,qs 66 6 1 65 64,i 67 66,K 68 3 67 0,a 69 68,s 70 69 4,M 71 69 7 1,⟨some 72,some (69,false),.p (.iadrA 6 1 (.t 71) (.t 70))⟩,L 73 69 72,s 74 69 3,⟨some 75,some (69,false),.p (.bin .sub 3 true false (.c (.int .i64 1024)) (.t 74))⟩,zz 76 69 3 73 75,r 77 69 76] (Kq 77 [b 2 2] .skip)) (Oq [a 78 3,a 79 4,d 80 7 1,qs 81 6 1 80 79,i 82 81,qf 83 3 78 82,a 3 83]))) (Oq [a 62 4,C 63 3 62 1,a 4 63])))
@[go_sem]def c167:CF:=⟨1,(Sq [w 1 27 0,b 2 0] (Qq (Sq [d 5 0 1,i 6 5,K 7 3 6 1,a 8 7,M 9 8 0 1,L 10 8 9,qc 11 8 3 10 64,r 12 8 11,a 13 12,M 14 13 1 1,L 15 13 14,qI 16 13 3 15 1,r 17 13 16,a 18 17,M 19 18 1 1,L 20 18 19,qc 21 18 3 20 64,r 22 18 21,a 23 22,M 24 23 2 1,L 25 23 24,zA 26 23 5 25 1,r 27 23 26,a 28 27,M 29 28 2 1,L 30 28 29,q3 31 28 5 30 3,r 32 28 31] (Kq 32 [b 2 2] .skip)) (Qq (Sq [d 33 2 1,i 34 33,J 35 5 34 3,a 36 35,W 37 36 3 1,Y 38 36 37,qy 39 36 3 38 1,B 40 36 39,M 41 40 3 1,L 42 40 41,qc 43 40 3 42 16,zB 44 36 40 43,O 45 36 44,a 46 45,M 47 46 2 1,L 48 46 47,zY 49 46 5 48 3,s 50 46 49,W 51 50 3 1,Y 52 50 51,zZ 53 50 3 52 0,zC 54 46 50 53,r 55 46 54] (Kq 55 [b 2 2] .skip)) (Qq (Sq [d 56 4 1,V 57 3 56,q 58 130 57,z 59 54 58 0] (Kq 59 [b 2 2] .skip)) (Sq [b 3 0] (Qq (Sq [b 4 0] (.block 0 (.loop c167_l14))) (Qq (Sq [d 84 13 1,i 85 84,K 86 3 85 1,a 87 86,M 88 87 13 1,L 89 87 88,qc 90 87 3 89 16,r 91 87 90,a 92 91,M 93 92 14 1,L 94 92 93,qI 95 92 3 94 1,r 96 92 95,a 97 96,M 98 97 14 1,L 99 97 98,qc 100 97 3 99 255,r 101 97 100,a 102 101,M 103 102 15 1,L 104 102 103,qI 105 102 3 104 0,r 106 102 105,a 107 106,M 108 107 15 1,L 109 107 108,qc 110 107 3 109 64,r 111 107 110] (Kq 111 [b 2 2] .skip)) (Rq [b 2 0])))))))),[.tmp 2]⟩
def inU(x:Int):Prop:=0<=x∧x<18446744073709551616
def I19(h0:H)(D:Nat)(l:List Int)(k:Nat)(tm:T AV)(h:H):Prop:=
 h=h0∧tm.get 1=some (.ptr D 0)∧∃(i:Nat) (a:Int),i+1+k=l.length∧l[i]?=some a∧tm.get 3=some (.int .i64 ((i+1:Nat):Int))∧ascB 0 l=ascB a (l.drop (i+1))
theorem step19(P:Program){call:CallE}{h0:H}{D:Nat}{kd n:Int}{v:AV}{l:List Int}(gD:h0.t.get D=some (rowL [.int .u8 kd,.int .i64 n,v] 24))(hv:RdL none 1 h0 v (l.map fun x:Int=>AV.int .u64 x))(k:Nat)(tm:T AV)(h:H)(hI:I19 h0 D l k tm h):
 WC P call c130_l16 (loopQ 1 (fun tm h=>∃j,j<k∧I19 h0 D l j tm h) (fun tm h=>h=h0∧ascB 0 l=true) (fun tm h=>h=h0∧ascB 0 l=false∧tm.get 2=some (.int .i64 2))) tm h:=by
 obtain⟨rfl,t1,i,a,hik,hia,t3,hasc⟩:=hI
 have hle:=hv.le
 have hvl:=hv.lenA
 rw[List.length_map]at hle hvl
 have e3:((i+1:Nat):Int)=(i:Int)+1:=rfl
 cases k with
 |zero=>
  have e1:¬(i:Int)+1<(l.length:Int):=by omega
  simp only[go_sem,seval,c130_l16,t1,t3,gD,hvl,e1,e3]
  rw[hasc,List.drop_eq_nil_of_le (by omega)]
  rfl
 |succ k=>
  have e1:(i:Int)+1<(l.length:Int):=by omega
  have hi:i+1<l.length:=by omega
  rcases hv with⟨_,hh⟩|⟨b,o,cap,rfl,_,ra⟩
  ·rw[List.map_eq_nil_iff]at hh;subst hh;simp at hi
  have ha:=ra (i+1) (.int .u64 l[i+1]) (by simp[hi])
  have hb:=ra i (.int .u64 a) (by rw[List.getElem?_map,hia];rfl)
  rw[rLdA,Nat.mul_one]at ha hb
  rw[List.length_map]at gD hvl
  rw[List.drop_eq_getElem_cons hi]at hasc
  have f1:fw .i64 ((i:Int)+1+1)=(i:Int)+1+1:=fwI (by omega) (by omega)
  have f2:fw .i64 ((i:Int)+1-1)=(i:Int):=by rw[show(i:Int)+1-1=(i:Int) by omega];exact fwI (by omega) (by omega)
  have e4:(0:Int)<=(i:Int)+1:=by omega
  have e5:((i:Int)+1).toNat=i+1:=by omega
  have e6:(i:Int)<(l.length:Int):=by omega
  simp only[go_sem,seval,c130_l16,t1,t3,gD,hvl,e1,e3,e4,e5,e6,f2,Nat.mul_one,ha,hb]
  by_cases hx:l[i+1]<=a
  ·have hx2:¬a<l[i+1]:=by omega
   simp only[go_sem,seval,hx2]
   rw[hasc,ascB,if_pos hx]
  ·have hx2:a<l[i+1]:=by omega
   simp only[go_sem,seval,hx2,t3,e3,f1]
   refine⟨k,Nat.lt_succ_self k,rfl,by simp[go_sem,t1],i+1,l[i+1],by omega,by simp[hi],?_,by rw[hasc,ascB,if_neg hx]⟩
   simp only[go_sem,seval,show(((i+1+1:Nat)):Int)=(i:Int)+1+1 from rfl]
theorem asc_head{x:Int}{l:List Int}(hx:0<x):ascB 0 (x::l)=ascB x l:=by rw[ascB,if_neg (by omega)]
theorem w130(P:Program){call:CallE}{h:H}{k n:Int}{v:AV}{l:List Int}(hv:RdL none 1 h v (l.map fun x:Int=>AV.int .u64 x))(hlv:∀a,own v=some a->a<h.next)(hin:∀x∈l,inU x):
 WF P call c130 [.agg [.int .u8 k,.int .i64 n,v]] h (SaysE (domB k n l) h):=by
 have ov:=hv.one
 have hvl:=hv.lenA
 rw[List.length_map]at hvl
 have st:∀x,StepN h ⟨h.next+1,h.t.set h.next x⟩:=fun x=>StepN.new h x
 have ln:((l.length:Int)=0)=(l=[]):=by rw[←List.length_eq_zero_iff];apply propext;omega
 by_cases k1:k=1
 ·subst k1
  by_cases n0:n=0
  ·by_cases l0:l=[]
   ·simp only[go_sem,seval,ov,hvl,n0,ln,l0]
    exact⟨0,rfl,by simp[domB],st _⟩
   ·simp only[go_sem,seval,ov,hvl,n0,ln,l0]
    exact⟨2,rfl,by simp[domB,l0],st _⟩
  ·simp only[go_sem,seval,ov,hvl,n0,ln]
   exact⟨2,rfl,by simp[domB,n0],st _⟩
 by_cases k2:k=2
 ·subst k2
  by_cases n1:n<1
  ·simp only[go_sem,seval,ov,hvl,n1,ln]
   exact⟨2,rfl,by simp[domB];intro h1 h2 h3;omega,st _⟩
  ·by_cases n2:64<n
   ·simp only[go_sem,seval,ov,hvl,n1,n2,ln]
    exact⟨2,rfl,by simp[domB];intro h1 h2 h3;omega,st _⟩
   ·by_cases l0:l=[]
    ·simp only[go_sem,seval,ov,hvl,n1,n2,ln,l0]
     exact⟨0,rfl,by simp[domB];omega,st _⟩
    ·simp only[go_sem,seval,ov,hvl,n1,n2,ln,l0]
     exact⟨2,rfl,by simp[domB,l0],st _⟩
 by_cases k3:k=3
 case neg=>
  simp only[go_sem,seval,ov,hvl,k1,k2,k3]
  exact⟨2,rfl,by simp[domB,k1,k2,k3],st _⟩
 subst k3
 by_cases n0:n=0
 case neg=>
  simp only[go_sem,seval,ov,hvl,n0]
  exact⟨2,rfl,by simp[domB,n0],st _⟩
 by_cases l1:(l.length:Int)<1
 case pos=>
  simp only[go_sem,seval,ov,hvl,n0,l1]
  have hn:¬domB 3 0 l:=by rintro (⟨h1,_⟩|⟨h1,_⟩|⟨_,_,h3,h4,_⟩)<;>omega
  exact⟨2,rfl,by simp[hn],st _⟩
 by_cases l2:(63:Int)<(l.length:Int)
 case pos=>
  simp only[go_sem,seval,ov,hvl,n0,l1,l2]
  have hn:¬domB 3 0 l:=by rintro (⟨h1,_⟩|⟨h1,_⟩|⟨_,_,h3,h4,_⟩)<;>omega
  exact⟨2,rfl,by simp[hn],st _⟩
 obtain⟨x,m,rfl⟩:∃x m,l=x::m:=by
  cases l with
  |nil=>simp at l1
  |cons x m=>exact⟨x,m,rfl⟩
 have st1:=st (.row (putList 0 [.int .u8 3,.int .i64 0,v] T.e) 3 24)
 have hv1:=hv.keep (h':=⟨h.next+1,h.t.set h.next (.row (putList 0 [.int .u8 3,.int .i64 0,v] T.e) 3 24)⟩) fun b hb=>st1.old b (hlv b hb)
 have hin0:=hin x (by simp)
 rcases id hv with⟨_,hh⟩|⟨b,o,cap,rfl,_,ra⟩
 ·simp at hh
 have hL:(List.map (fun x:Int=>AV.int .u64 x) (x::m)).length=m.length+1:=by simp
 have ha:=ra 0 (.int .u64 x) rfl
 rw[hL]at hv1 st1 ov hvl hlv
 rw[rLdA,Nat.mul_one,Nat.add_zero]at ha
 have nb:¬b=h.next:=by have:=hlv b rfl;omega
 have e6:(0:Int)<((x::m).length:Int):=by simp only[List.length_cons];omega
 have e7:¬((m.length+1:Nat):Int)<1:=by simp only[List.length_cons]at l1;omega
 have e8:¬(63:Int)<((m.length+1:Nat):Int):=by simp only[List.length_cons]at l2;omega
 have e9:(0:Int)<((m.length+1:Nat):Int):=by omega
 by_cases x0:x=0
 ·simp only[go_sem,seval,ov,hvl,n0,l1,l2,List.length_map,Nat.mul_one,nb,ha,e7,e8,e9,x0]
  exact⟨2,rfl,by simp[domB,ascB],st _⟩
 have xp:0<x:=by have:=hin0.1;omega
 simp only[go_sem,seval,ov,hvl,n0,l1,l2,List.length_map,Nat.mul_one,nb,ha,e7,e8,e9,x0]
 refine loop_in (I19 _ h.next (x::m)) _ _ (fun k tm h' hI=>step19 P (by simp only[go_sem,seval];rfl) hv1 k tm h' hI) (fun tm2 h2 hR=>?_) (fun tm2 h2 hS=>?_) m.length _ _
  ⟨rfl,by simp[go_sem],0,x,by simp;omega,rfl,by simp[go_sem],asc_head xp⟩
 ·obtain⟨rfl,hc⟩:=hR
  simp only[go_sem,seval]
  exact⟨0,rfl,by simp[domB,hc];simp at e8;omega,st1⟩
 ·obtain⟨rfl,hc,t2⟩:=hS
  simp only[go_sem,seval,t2]
  exact⟨2,rfl,by simp[domB,hc],st1⟩
set_option maxHeartbeats 2000000 in
set_option maxRecDepth 10000 in
theorem w167_1(h19:∀h k n v (l:List Int),RdL none 1 h v (l.map fun x:Int=>AV.int .u64 x)->(∀a,own v=some a->a<h.next)->(∀x∈l,inU x)->∃v' h',call 130 [.agg [.int .u8 k,.int .i64 n,v]] h=some (v',h')∧SaysE (domB k n l) h v' h')
 {h:H} {c:CfgT} {v:AV} (hv:RdL none 1 h v (c.cuts.map fun x:Int=>AV.int .u64 x)) (hlv:∀a,own v=some a->a<h.next) (hin:∀x∈c.cuts,inU x) (hg:c.engine=3):
 WF P call c167 [.agg (cfgC c v)] h (SaysE (layB c) h):=by
 have ov:=hv.one
 have st:∀x,StepN h ⟨h.next+1,h.t.set h.next x⟩:=fun x=>StepN.new h x
 have bad:∀(p:Prop) x,¬p->SaysE p h (.int .i64 2) ⟨h.next+1,h.t.set h.next x⟩:=fun p x hp=>⟨2,rfl,by simp[hp],st x⟩
 by_cases c1:c.threads<1
 case pos=>
  simp only[go_sem,seval,c167,ov,cfgC,c1]
  exact bad _ _ (by rintro ⟨_,q1,q2,q3,q4,q5,q6,q7,q8,q9,q10⟩;omega)
 by_cases c2:64<c.threads
 case pos=>
  simp only[go_sem,seval,c167,ov,cfgC,c1,c2]
  exact bad _ _ (by rintro ⟨_,q1,q2,q3,q4,q5,q6,q7,q8,q9,q10⟩;omega)
 by_cases c93:c.slots<1
 case pos=>
  simp only[go_sem,seval,c167,ov,cfgC,c1,c2,c93]
  exact bad _ _ (by rintro ⟨_,q1,q2,q3,q4,q5,q6,q7,q8,q9,q10⟩;omega)
 by_cases c94:64<c.slots
 case pos=>
  simp only[go_sem,seval,c167,ov,cfgC,c1,c2,c93,c94]
  exact bad _ _ (by rintro ⟨_,q1,q2,q3,q4,q5,q6,q7,q8,q9,q10⟩;omega)
 by_cases c167:c.engine<1
 case pos=>
  simp only[go_sem,seval,c167,ov,cfgC,c1,c2,c93,c94,c167]
  exact bad _ _ (by rintro ⟨_,q1,q2,q3,q4,q5,q6,q7,q8,q9,q10⟩;omega)
 by_cases c20:3<c.engine
 case pos=>
  simp only[go_sem,seval,c167,ov,cfgC,c1,c2,c93,c94,c167,c20]
  exact bad _ _ (by rintro ⟨_,q1,q2,q3,q4,q5,q6,q7,q8,q9,q10⟩;omega)
 by_cases c22:c.buckets<1
 case pos=>
  simp only[go_sem,seval,c167,ov,cfgC,c1,c2,c93,c94,c167,c20,hg,c22]
  exact bad _ _ (by rintro ⟨_,q1,q2,q3,q4,q5,q6,q7,q8,q9,q10⟩;have:=q5 hg;omega)
 by_cases c98:16<c.buckets
 case pos=>
  simp only[go_sem,seval,c167,ov,cfgC,c1,c2,c93,c94,c167,c20,hg,c22,c98]
  exact bad _ _ (by rintro ⟨_,q1,q2,q3,q4,q5,q6,q7,q8,q9,q10⟩;have:=q5 hg;omega)
 simp only[go_sem,seval,c167,ov,cfgC,c1,c2,c93,c94,c167,c20,hg,c22,c98]
 refine opt_by (h19 _ c.kind c.n v c.cuts (hv.keep fun b hb=>(st _).old b (hlv b hb)) (fun a ha=>Nat.lt_of_lt_of_le (hlv a ha) (st _).next) hin) fun v1 h1 p1=>?_
 obtain⟨e,rfl,he,st1⟩:=p1
 have stn:=(st _).trans st1
 have g0:=st1.old h.next (by show h.next<h.next+1;omega)
 simp only[go_sem,seval]at g0
 have bad2:∀p:Prop,¬p->SaysE p h (.int .i64 2) h1:=fun p hp=>⟨2,rfl,by simp[hp],stn⟩
 by_cases d0:e=0
 case neg=>
  simp only[go_sem,seval,d0,g0]
  exact bad2 _ (by rintro ⟨_,q1,q2,q3,q4,q5,q6,q7,q8,q9,q10⟩;exact d0 (he.2 q7))
 have dd:=he.1 d0
 simp only[go_sem,seval,d0,g0]
 refine unroll 7 ?_
 simp only[go_sem,seval,c167_l14,g0,fl1,fl2,fl3,fl4,fl5,fl6]
 by_cases a0:c.t0<0
 case pos=>
  simp only[go_sem,seval,c167_l14,g0,Int.zero_add,Int.sub_zero,fl1,fl2,fl3,fl4,fl5,fl6,a0]
  exact bad2 _ (by rintro ⟨ht,_⟩;simp only[towB]at ht;omega)
 have u0:fw .i64 (1024)=1024:=rfl
 by_cases b0:1024<c.t0
 case pos=>
  simp only[go_sem,seval,c167_l14,g0,Int.zero_add,Int.sub_zero,fl1,fl2,fl3,fl4,fl5,fl6,a0,u0,b0]
  exact bad2 _ (by rintro ⟨ht,_⟩;simp only[towB]at ht;omega)
 have f0:fw .i64 (c.t0)=c.t0:=fwI (by omega) (by omega)
 simp only[go_sem,seval,c167_l14,g0,Int.zero_add,Int.sub_zero,a0,u0,b0,f0,fl1,fl2,fl3,fl4,fl5,fl6]
 by_cases a1:c.t1<0
 case pos=>
  simp only[go_sem,seval,c167_l14,g0,Int.zero_add,Int.sub_zero,a0,u0,b0,f0,fl1,fl2,fl3,fl4,fl5,fl6,a1]
  exact bad2 _ (by rintro ⟨ht,_⟩;simp only[towB]at ht;omega)
 have u1:fw .i64 (1024-(c.t0))=1024-(c.t0):=fwI (by omega) (by omega)
 by_cases b1:1024-(c.t0)<c.t1
 case pos=>
  simp only[go_sem,seval,c167_l14,g0,Int.zero_add,Int.sub_zero,a0,u0,b0,f0,fl1,fl2,fl3,fl4,fl5,fl6,a1,u1,b1]
  exact bad2 _ (by rintro ⟨ht,_⟩;simp only[towB]at ht;omega)
 have f1:fw .i64 (c.t0+c.t1)=c.t0+c.t1:=fwI (by omega) (by omega)
 simp only[go_sem,seval,c167_l14,g0,Int.zero_add,Int.sub_zero,a0,u0,b0,f0,a1,u1,b1,f1,fl1,fl2,fl3,fl4,fl5,fl6]
 by_cases a2:c.t2<0
 case pos=>
  simp only[go_sem,seval,c167_l14,g0,Int.zero_add,Int.sub_zero,a0,u0,b0,f0,a1,u1,b1,f1,fl1,fl2,fl3,fl4,fl5,fl6,a2]
  exact bad2 _ (by rintro ⟨ht,_⟩;simp only[towB]at ht;omega)
 have u2:fw .i64 (1024-(c.t0+c.t1))=1024-(c.t0+c.t1):=fwI (by omega) (by omega)
 by_cases b2:1024-(c.t0+c.t1)<c.t2
 case pos=>
  simp only[go_sem,seval,c167_l14,g0,Int.zero_add,Int.sub_zero,a0,u0,b0,f0,a1,u1,b1,f1,fl1,fl2,fl3,fl4,fl5,fl6,a2,u2,b2]
  exact bad2 _ (by rintro ⟨ht,_⟩;simp only[towB]at ht;omega)
 have f2:fw .i64 (c.t0+c.t1+c.t2)=c.t0+c.t1+c.t2:=fwI (by omega) (by omega)
 simp only[go_sem,seval,c167_l14,g0,Int.zero_add,Int.sub_zero,a0,u0,b0,f0,a1,u1,b1,f1,a2,u2,b2,f2,fl1,fl2,fl3,fl4,fl5,fl6]
 by_cases a3:c.t3<0
 case pos=>
  simp only[go_sem,seval,c167_l14,g0,Int.zero_add,Int.sub_zero,a0,u0,b0,f0,a1,u1,b1,f1,a2,u2,b2,f2,fl1,fl2,fl3,fl4,fl5,fl6,a3]
  exact bad2 _ (by rintro ⟨ht,_⟩;simp only[towB]at ht;omega)
 have u3:fw .i64 (1024-(c.t0+c.t1+c.t2))=1024-(c.t0+c.t1+c.t2):=fwI (by omega) (by omega)
 by_cases b3:1024-(c.t0+c.t1+c.t2)<c.t3
 case pos=>
  simp only[go_sem,seval,c167_l14,g0,Int.zero_add,Int.sub_zero,a0,u0,b0,f0,a1,u1,b1,f1,a2,u2,b2,f2,fl1,fl2,fl3,fl4,fl5,fl6,a3,u3,b3]
  exact bad2 _ (by rintro ⟨ht,_⟩;simp only[towB]at ht;omega)
 have f3:fw .i64 (c.t0+c.t1+c.t2+c.t3)=c.t0+c.t1+c.t2+c.t3:=fwI (by omega) (by omega)
 simp only[go_sem,seval,c167_l14,g0,Int.zero_add,Int.sub_zero,a0,u0,b0,f0,a1,u1,b1,f1,a2,u2,b2,f2,a3,u3,b3,f3,fl1,fl2,fl3,fl4,fl5,fl6]
 by_cases a4:c.t4<0
 case pos=>
  simp only[go_sem,seval,c167_l14,g0,Int.zero_add,Int.sub_zero,a0,u0,b0,f0,a1,u1,b1,f1,a2,u2,b2,f2,a3,u3,b3,f3,fl1,fl2,fl3,fl4,fl5,fl6,a4]
  exact bad2 _ (by rintro ⟨ht,_⟩;simp only[towB]at ht;omega)
 have u4:fw .i64 (1024-(c.t0+c.t1+c.t2+c.t3))=1024-(c.t0+c.t1+c.t2+c.t3):=fwI (by omega) (by omega)
 by_cases b4:1024-(c.t0+c.t1+c.t2+c.t3)<c.t4
 case pos=>
  simp only[go_sem,seval,c167_l14,g0,Int.zero_add,Int.sub_zero,a0,u0,b0,f0,a1,u1,b1,f1,a2,u2,b2,f2,a3,u3,b3,f3,fl1,fl2,fl3,fl4,fl5,fl6,a4,u4,b4]
  exact bad2 _ (by rintro ⟨ht,_⟩;simp only[towB]at ht;omega)
 have f4:fw .i64 (c.t0+c.t1+c.t2+c.t3+c.t4)=c.t0+c.t1+c.t2+c.t3+c.t4:=fwI (by omega) (by omega)
 simp only[go_sem,seval,c167_l14,g0,Int.zero_add,Int.sub_zero,a0,u0,b0,f0,a1,u1,b1,f1,a2,u2,b2,f2,a3,u3,b3,f3,a4,u4,b4,f4,fl1,fl2,fl3,fl4,fl5,fl6]
 by_cases a5:c.t5<0
 case pos=>
  simp only[go_sem,seval,c167_l14,g0,Int.zero_add,Int.sub_zero,a0,u0,b0,f0,a1,u1,b1,f1,a2,u2,b2,f2,a3,u3,b3,f3,a4,u4,b4,f4,fl1,fl2,fl3,fl4,fl5,fl6,a5]
  exact bad2 _ (by rintro ⟨ht,_⟩;simp only[towB]at ht;omega)
 have u5:fw .i64 (1024-(c.t0+c.t1+c.t2+c.t3+c.t4))=1024-(c.t0+c.t1+c.t2+c.t3+c.t4):=fwI (by omega) (by omega)
 by_cases b5:1024-(c.t0+c.t1+c.t2+c.t3+c.t4)<c.t5
 case pos=>
  simp only[go_sem,seval,c167_l14,g0,Int.zero_add,Int.sub_zero,a0,u0,b0,f0,a1,u1,b1,f1,a2,u2,b2,f2,a3,u3,b3,f3,a4,u4,b4,f4,fl1,fl2,fl3,fl4,fl5,fl6,a5,u5,b5]
  exact bad2 _ (by rintro ⟨ht,_⟩;simp only[towB]at ht;omega)
 have f5:fw .i64 (c.t0+c.t1+c.t2+c.t3+c.t4+c.t5)=c.t0+c.t1+c.t2+c.t3+c.t4+c.t5:=fwI (by omega) (by omega)
 simp only[go_sem,seval,c167_l14,g0,Int.zero_add,Int.sub_zero,a0,u0,b0,f0,a1,u1,b1,f1,a2,u2,b2,f2,a3,u3,b3,f3,a4,u4,b4,f4,a5,u5,b5,f5,fl1,fl2,fl3,fl4,fl5,fl6]
 have ht:towB 1024 [c.t0,c.t1,c.t2,c.t3,c.t4,c.t5]:=by simp only[towB,and_true];omega
 by_cases l1:c.locks<1
 case pos=>
  simp only[go_sem,seval,g0,l1]
  exact bad2 _ (by rintro ⟨_,q1,q2,q3,q4,q5,q6,q7,q8,q9,q10,q11⟩;omega)
 by_cases l2:16<c.locks
 case pos=>
  simp only[go_sem,seval,g0,l1,l2]
  exact bad2 _ (by rintro ⟨_,q1,q2,q3,q4,q5,q6,q7,q8,q9,q10,q11⟩;omega)
 by_cases l3:c.tries<1
 case pos=>
  simp only[go_sem,seval,g0,l1,l2,l3]
  exact bad2 _ (by rintro ⟨_,q1,q2,q3,q4,q5,q6,q7,q8,q9,q10,q11⟩;omega)
 by_cases l4:255<c.tries
 case pos=>
  simp only[go_sem,seval,g0,l1,l2,l3,l4]
  exact bad2 _ (by rintro ⟨_,q1,q2,q3,q4,q5,q6,q7,q8,q9,q10,q11⟩;omega)
 by_cases l5:c.batch<0
 case pos=>
  simp only[go_sem,seval,g0,l1,l2,l3,l4,l5]
  exact bad2 _ (by rintro ⟨_,q1,q2,q3,q4,q5,q6,q7,q8,q9,q10,q11⟩;omega)
 by_cases l6:64<c.batch
 case pos=>
  simp only[go_sem,seval,g0,l1,l2,l3,l4,l5,l6]
  exact bad2 _ (by rintro ⟨_,q1,q2,q3,q4,q5,q6,q7,q8,q9,q10,q11⟩;omega)
 simp only[go_sem,seval,g0,l1,l2,l3,l4,l5,l6]
 exact⟨0,rfl,by simp only[true_iff];exact⟨ht,by omega,by omega,by omega,by omega,fun _=>by omega,fun q=>absurd hg q,dd,by omega,by omega,by omega,by omega⟩,stn⟩
set_option maxHeartbeats 2000000 in
set_option maxRecDepth 10000 in
theorem w167_0(h19:∀h k n v (l:List Int),RdL none 1 h v (l.map fun x:Int=>AV.int .u64 x)->(∀a,own v=some a->a<h.next)->(∀x∈l,inU x)->∃v' h',call 130 [.agg [.int .u8 k,.int .i64 n,v]] h=some (v',h')∧SaysE (domB k n l) h v' h')
 {h:H} {c:CfgT} {v:AV} (hv:RdL none 1 h v (c.cuts.map fun x:Int=>AV.int .u64 x)) (hlv:∀a,own v=some a->a<h.next) (hin:∀x∈c.cuts,inU x) (hg:¬c.engine=3):
 WF P call c167 [.agg (cfgC c v)] h (SaysE (layB c) h):=by
 have ov:=hv.one
 have st:∀x,StepN h ⟨h.next+1,h.t.set h.next x⟩:=fun x=>StepN.new h x
 have bad:∀(p:Prop) x,¬p->SaysE p h (.int .i64 2) ⟨h.next+1,h.t.set h.next x⟩:=fun p x hp=>⟨2,rfl,by simp[hp],st x⟩
 by_cases c1:c.threads<1
 case pos=>
  simp only[go_sem,seval,c167,ov,cfgC,c1]
  exact bad _ _ (by rintro ⟨_,q1,q2,q3,q4,q5,q6,q7,q8,q9,q10⟩;omega)
 by_cases c2:64<c.threads
 case pos=>
  simp only[go_sem,seval,c167,ov,cfgC,c1,c2]
  exact bad _ _ (by rintro ⟨_,q1,q2,q3,q4,q5,q6,q7,q8,q9,q10⟩;omega)
 by_cases c93:c.slots<1
 case pos=>
  simp only[go_sem,seval,c167,ov,cfgC,c1,c2,c93]
  exact bad _ _ (by rintro ⟨_,q1,q2,q3,q4,q5,q6,q7,q8,q9,q10⟩;omega)
 by_cases c94:64<c.slots
 case pos=>
  simp only[go_sem,seval,c167,ov,cfgC,c1,c2,c93,c94]
  exact bad _ _ (by rintro ⟨_,q1,q2,q3,q4,q5,q6,q7,q8,q9,q10⟩;omega)
 by_cases c167:c.engine<1
 case pos=>
  simp only[go_sem,seval,c167,ov,cfgC,c1,c2,c93,c94,c167]
  exact bad _ _ (by rintro ⟨_,q1,q2,q3,q4,q5,q6,q7,q8,q9,q10⟩;omega)
 by_cases c20:3<c.engine
 case pos=>
  simp only[go_sem,seval,c167,ov,cfgC,c1,c2,c93,c94,c167,c20]
  exact bad _ _ (by rintro ⟨_,q1,q2,q3,q4,q5,q6,q7,q8,q9,q10⟩;omega)
 by_cases c22:c.buckets=0
 case neg=>
  simp only[go_sem,seval,c167,ov,cfgC,c1,c2,c93,c94,c167,c20,hg,c22]
  exact bad _ _ (by rintro ⟨_,q1,q2,q3,q4,q5,q6,q7,q8,q9,q10⟩;exact c22 (q6 hg))
 have c98:True:=trivial
 simp only[go_sem,seval,c167,ov,cfgC,c1,c2,c93,c94,c167,c20,hg,c22,c98]
 refine opt_by (h19 _ c.kind c.n v c.cuts (hv.keep fun b hb=>(st _).old b (hlv b hb)) (fun a ha=>Nat.lt_of_lt_of_le (hlv a ha) (st _).next) hin) fun v1 h1 p1=>?_
 obtain⟨e,rfl,he,st1⟩:=p1
 have stn:=(st _).trans st1
 have g0:=st1.old h.next (by show h.next<h.next+1;omega)
 simp only[go_sem,seval]at g0
 have bad2:∀p:Prop,¬p->SaysE p h (.int .i64 2) h1:=fun p hp=>⟨2,rfl,by simp[hp],stn⟩
 by_cases d0:e=0
 case neg=>
  simp only[go_sem,seval,d0,g0]
  exact bad2 _ (by rintro ⟨_,q1,q2,q3,q4,q5,q6,q7,q8,q9,q10⟩;exact d0 (he.2 q7))
 have dd:=he.1 d0
 simp only[go_sem,seval,d0,g0]
 refine unroll 7 ?_
 simp only[go_sem,seval,c167_l14,g0,fl1,fl2,fl3,fl4,fl5,fl6]
 by_cases a0:c.t0<0
 case pos=>
  simp only[go_sem,seval,c167_l14,g0,Int.zero_add,Int.sub_zero,fl1,fl2,fl3,fl4,fl5,fl6,a0]
  exact bad2 _ (by rintro ⟨ht,_⟩;simp only[towB]at ht;omega)
 have u0:fw .i64 (1024)=1024:=rfl
 by_cases b0:1024<c.t0
 case pos=>
  simp only[go_sem,seval,c167_l14,g0,Int.zero_add,Int.sub_zero,fl1,fl2,fl3,fl4,fl5,fl6,a0,u0,b0]
  exact bad2 _ (by rintro ⟨ht,_⟩;simp only[towB]at ht;omega)
 have f0:fw .i64 (c.t0)=c.t0:=fwI (by omega) (by omega)
 simp only[go_sem,seval,c167_l14,g0,Int.zero_add,Int.sub_zero,a0,u0,b0,f0,fl1,fl2,fl3,fl4,fl5,fl6]
 by_cases a1:c.t1<0
 case pos=>
  simp only[go_sem,seval,c167_l14,g0,Int.zero_add,Int.sub_zero,a0,u0,b0,f0,fl1,fl2,fl3,fl4,fl5,fl6,a1]
  exact bad2 _ (by rintro ⟨ht,_⟩;simp only[towB]at ht;omega)
 have u1:fw .i64 (1024-(c.t0))=1024-(c.t0):=fwI (by omega) (by omega)
 by_cases b1:1024-(c.t0)<c.t1
 case pos=>
  simp only[go_sem,seval,c167_l14,g0,Int.zero_add,Int.sub_zero,a0,u0,b0,f0,fl1,fl2,fl3,fl4,fl5,fl6,a1,u1,b1]
  exact bad2 _ (by rintro ⟨ht,_⟩;simp only[towB]at ht;omega)
 have f1:fw .i64 (c.t0+c.t1)=c.t0+c.t1:=fwI (by omega) (by omega)
 simp only[go_sem,seval,c167_l14,g0,Int.zero_add,Int.sub_zero,a0,u0,b0,f0,a1,u1,b1,f1,fl1,fl2,fl3,fl4,fl5,fl6]
 by_cases a2:c.t2<0
 case pos=>
  simp only[go_sem,seval,c167_l14,g0,Int.zero_add,Int.sub_zero,a0,u0,b0,f0,a1,u1,b1,f1,fl1,fl2,fl3,fl4,fl5,fl6,a2]
  exact bad2 _ (by rintro ⟨ht,_⟩;simp only[towB]at ht;omega)
 have u2:fw .i64 (1024-(c.t0+c.t1))=1024-(c.t0+c.t1):=fwI (by omega) (by omega)
 by_cases b2:1024-(c.t0+c.t1)<c.t2
 case pos=>
  simp only[go_sem,seval,c167_l14,g0,Int.zero_add,Int.sub_zero,a0,u0,b0,f0,a1,u1,b1,f1,fl1,fl2,fl3,fl4,fl5,fl6,a2,u2,b2]
  exact bad2 _ (by rintro ⟨ht,_⟩;simp only[towB]at ht;omega)
 have f2:fw .i64 (c.t0+c.t1+c.t2)=c.t0+c.t1+c.t2:=fwI (by omega) (by omega)
 simp only[go_sem,seval,c167_l14,g0,Int.zero_add,Int.sub_zero,a0,u0,b0,f0,a1,u1,b1,f1,a2,u2,b2,f2,fl1,fl2,fl3,fl4,fl5,fl6]
 by_cases a3:c.t3<0
 case pos=>
  simp only[go_sem,seval,c167_l14,g0,Int.zero_add,Int.sub_zero,a0,u0,b0,f0,a1,u1,b1,f1,a2,u2,b2,f2,fl1,fl2,fl3,fl4,fl5,fl6,a3]
  exact bad2 _ (by rintro ⟨ht,_⟩;simp only[towB]at ht;omega)
 have u3:fw .i64 (1024-(c.t0+c.t1+c.t2))=1024-(c.t0+c.t1+c.t2):=fwI (by omega) (by omega)
 by_cases b3:1024-(c.t0+c.t1+c.t2)<c.t3
 case pos=>
  simp only[go_sem,seval,c167_l14,g0,Int.zero_add,Int.sub_zero,a0,u0,b0,f0,a1,u1,b1,f1,a2,u2,b2,f2,fl1,fl2,fl3,fl4,fl5,fl6,a3,u3,b3]
  exact bad2 _ (by rintro ⟨ht,_⟩;simp only[towB]at ht;omega)
 have f3:fw .i64 (c.t0+c.t1+c.t2+c.t3)=c.t0+c.t1+c.t2+c.t3:=fwI (by omega) (by omega)
 simp only[go_sem,seval,c167_l14,g0,Int.zero_add,Int.sub_zero,a0,u0,b0,f0,a1,u1,b1,f1,a2,u2,b2,f2,a3,u3,b3,f3,fl1,fl2,fl3,fl4,fl5,fl6]
 by_cases a4:c.t4<0
 case pos=>
  simp only[go_sem,seval,c167_l14,g0,Int.zero_add,Int.sub_zero,a0,u0,b0,f0,a1,u1,b1,f1,a2,u2,b2,f2,a3,u3,b3,f3,fl1,fl2,fl3,fl4,fl5,fl6,a4]
  exact bad2 _ (by rintro ⟨ht,_⟩;simp only[towB]at ht;omega)
 have u4:fw .i64 (1024-(c.t0+c.t1+c.t2+c.t3))=1024-(c.t0+c.t1+c.t2+c.t3):=fwI (by omega) (by omega)
 by_cases b4:1024-(c.t0+c.t1+c.t2+c.t3)<c.t4
 case pos=>
  simp only[go_sem,seval,c167_l14,g0,Int.zero_add,Int.sub_zero,a0,u0,b0,f0,a1,u1,b1,f1,a2,u2,b2,f2,a3,u3,b3,f3,fl1,fl2,fl3,fl4,fl5,fl6,a4,u4,b4]
  exact bad2 _ (by rintro ⟨ht,_⟩;simp only[towB]at ht;omega)
 have f4:fw .i64 (c.t0+c.t1+c.t2+c.t3+c.t4)=c.t0+c.t1+c.t2+c.t3+c.t4:=fwI (by omega) (by omega)
 simp only[go_sem,seval,c167_l14,g0,Int.zero_add,Int.sub_zero,a0,u0,b0,f0,a1,u1,b1,f1,a2,u2,b2,f2,a3,u3,b3,f3,a4,u4,b4,f4,fl1,fl2,fl3,fl4,fl5,fl6]
 by_cases a5:c.t5<0
 case pos=>
  simp only[go_sem,seval,c167_l14,g0,Int.zero_add,Int.sub_zero,a0,u0,b0,f0,a1,u1,b1,f1,a2,u2,b2,f2,a3,u3,b3,f3,a4,u4,b4,f4,fl1,fl2,fl3,fl4,fl5,fl6,a5]
  exact bad2 _ (by rintro ⟨ht,_⟩;simp only[towB]at ht;omega)
 have u5:fw .i64 (1024-(c.t0+c.t1+c.t2+c.t3+c.t4))=1024-(c.t0+c.t1+c.t2+c.t3+c.t4):=fwI (by omega) (by omega)
 by_cases b5:1024-(c.t0+c.t1+c.t2+c.t3+c.t4)<c.t5
 case pos=>
  simp only[go_sem,seval,c167_l14,g0,Int.zero_add,Int.sub_zero,a0,u0,b0,f0,a1,u1,b1,f1,a2,u2,b2,f2,a3,u3,b3,f3,a4,u4,b4,f4,fl1,fl2,fl3,fl4,fl5,fl6,a5,u5,b5]
  exact bad2 _ (by rintro ⟨ht,_⟩;simp only[towB]at ht;omega)
 have f5:fw .i64 (c.t0+c.t1+c.t2+c.t3+c.t4+c.t5)=c.t0+c.t1+c.t2+c.t3+c.t4+c.t5:=fwI (by omega) (by omega)
 simp only[go_sem,seval,c167_l14,g0,Int.zero_add,Int.sub_zero,a0,u0,b0,f0,a1,u1,b1,f1,a2,u2,b2,f2,a3,u3,b3,f3,a4,u4,b4,f4,a5,u5,b5,f5,fl1,fl2,fl3,fl4,fl5,fl6]
 have ht:towB 1024 [c.t0,c.t1,c.t2,c.t3,c.t4,c.t5]:=by simp only[towB,and_true];omega
 by_cases l1:c.locks<1
 case pos=>
  simp only[go_sem,seval,g0,l1]
  exact bad2 _ (by rintro ⟨_,q1,q2,q3,q4,q5,q6,q7,q8,q9,q10,q11⟩;omega)
 by_cases l2:16<c.locks
 case pos=>
  simp only[go_sem,seval,g0,l1,l2]
  exact bad2 _ (by rintro ⟨_,q1,q2,q3,q4,q5,q6,q7,q8,q9,q10,q11⟩;omega)
 by_cases l3:c.tries<1
 case pos=>
  simp only[go_sem,seval,g0,l1,l2,l3]
  exact bad2 _ (by rintro ⟨_,q1,q2,q3,q4,q5,q6,q7,q8,q9,q10,q11⟩;omega)
 by_cases l4:255<c.tries
 case pos=>
  simp only[go_sem,seval,g0,l1,l2,l3,l4]
  exact bad2 _ (by rintro ⟨_,q1,q2,q3,q4,q5,q6,q7,q8,q9,q10,q11⟩;omega)
 by_cases l5:c.batch<0
 case pos=>
  simp only[go_sem,seval,g0,l1,l2,l3,l4,l5]
  exact bad2 _ (by rintro ⟨_,q1,q2,q3,q4,q5,q6,q7,q8,q9,q10,q11⟩;omega)
 by_cases l6:64<c.batch
 case pos=>
  simp only[go_sem,seval,g0,l1,l2,l3,l4,l5,l6]
  exact bad2 _ (by rintro ⟨_,q1,q2,q3,q4,q5,q6,q7,q8,q9,q10,q11⟩;omega)
 simp only[go_sem,seval,g0,l1,l2,l3,l4,l5,l6]
 exact⟨0,rfl,by simp only[true_iff];exact⟨ht,by omega,by omega,by omega,by omega,fun q=>absurd q hg,fun _=>c22,dd,by omega,by omega,by omega,by omega⟩,stn⟩
theorem w167(h19:∀h k n v (l:List Int),RdL none 1 h v (l.map fun x:Int=>AV.int .u64 x)->(∀a,own v=some a->a<h.next)->(∀x∈l,inU x)->∃v' h',call 130 [.agg [.int .u8 k,.int .i64 n,v]] h=some (v',h')∧SaysE (domB k n l) h v' h')
 {h:H} {c:CfgT} {v:AV} (hv:RdL none 1 h v (c.cuts.map fun x:Int=>AV.int .u64 x)) (hlv:∀a,own v=some a->a<h.next) (hin:∀x∈c.cuts,inU x):WF P call c167 [.agg (cfgC c v)] h (SaysE (layB c) h):=by
 by_cases hg:c.engine=3
 ·exact w167_1 P h19 hv hlv hin hg
 ·exact w167_0 P h19 hv hlv hin hg
@[go_sem]def c232:CF:=⟨1,(Sq [w 1 24 0,b 2 0] (Qq (Sq [d 3 0 1,i 4 3] (.block 0 (Sq [J 6 5 4 2,a 5 6] (Kq 5 [d 7 1 1,i 8 7,a 2 8] (Sq [J 10 5 4 3,a 9 10] (Kq 9 [d 11 2 1,i 12 11,A 13 12,C 14 3 13 1,a 2 14] .skip)))))) (Rq [b 2 1]))),[.tmp 2]⟩
@[go_sem]def c155:CF:=⟨1,(Sq [w 1 24 0,b 2 0,b 3 0] (Qq (Sq [V 5 3 1,q 6 112 5,a 4 6] (Sq [a 7 4,z 8 54 7 0] (Kq 8 [a 9 4,b 2 0,a 3 9] .skip))) (Rq [V 10 3 1,q 11 232 10,a 2 11,b 3 0]))),[.tmp 2,.tmp 3]⟩
@[go_sem]def c157:CF:=⟨1,(Sq [w 1 27 0,b 2 0] (Sq [d 4 1 1,i 5 4,d 6 1 1,i 7 6,qq 8 3 2 7,d 9 3 1,i 10 9,qq 11 3 4 10,⟨some 12,none,.p (.build [iz,iz,iz,iz] [(1,1,.t 5),(2,1,.t 8),(3,1,.t 11)])⟩,zD 3 424 0 0 0 0,t 4 3 12] (Rq [d 13 2 1,i 14 13,qs 15 4 1 3 14,i 16 15,a 2 16]))),[.tmp 2]⟩
@[go_sem]def c154:CF:=⟨1,(Sq [D 2] (Qq (Sq [a 3 0,z0 4 22 3] (Kq 4 [D 2] .skip)) (Rq [zh 5 51 1 0,a 6 0,qj 7 51 1 8 5 6,a 2 7]))),[.tmp 2]⟩
@[go_sem]def c161:CF:=⟨1,(Sq [b 2 0] (Qq (Sq [a 3 0,u 4 91 3] (Kq 4 [b 2 0] .skip)) (Rq [a 5 0,m 6 5,d 7 27 6,i 8 7,A 9 8,a 2 9]))),[.tmp 2]⟩
@[go_sem]def c108:CF:=⟨1,(Sq [q5 2 27 0 0 0 0 0 0 0 0 0 0 0 0 0 0 0] (Qq (Sq [a 4 0,u 5 91 4] (Kq 5 [z1 6 0 0 0 0 0 0 0 0 0 0 0 0 0 0 0,t 16 2 6] .skip)) (Sq [a 7 0,m 8 7,d 9 0 8,V 10 16 9,q5 3 27 0 0 0 0 0 0 0 0 0 0 0 0 0 0 0,t 16 3 10] (Sq [d 11 4 3,d 12 2 11,i 13 12,q 14 154 13,d 15 4 3,d 16 2 15,t 1 16 14] (Rq [V 17 16 3,t 16 2 17]))))),[(.cell 2 (some 16))]⟩
@[go_sem]def c160:CF:=⟨2,(Sq [qk 4 0,b 5 0] (Qq (Sq [a 6 0,z2 7 51 6 1099511627775,a 8 7,s 9 8 1,qI 10 8 3 9 0,r 11 8 10,a 12 11,s 13 12 1,qc 14 12 3 13 1024,r 15 12 14] (Kq 15 [qk 4 0,b 5 2] .skip)) (Rq [a 16 1,qX 17 16,a 18 0,⟨some 19,none,.p (.bin .mul 51 true false (.c (.int .u64 65536)) (.t 18))⟩,qf 20 51 17 19,a 4 20,b 5 0]))),[.tmp 4,.tmp 5]⟩
theorem getList_of(c:T AV):∀(l:List AV) (o:Nat),(∀i x,l[i]?=some x->c.get (o+i)=some x)->getList c o l.length=some l
 | [],o,_=>by rw[List.length_nil,getList_zero]
 |x::l,o,h=>by
  have h0:=h 0 x rfl
  rw[Nat.add_zero]at h0
  have ih:=getList_of c l (o+1) fun i y hi=>by
   have:=h (i+1) y hi
   rwa [show o+1+i=o+(i+1) by omega]
  rw[List.length_cons,getList_succ,h0]
  simp only[ih]
theorem RdL.src1{h:H}{v:AV}{xs:List AV}(r:RdL none 1 h v xs):srcA h.t.get 1 v=some (xs.length,xs):=by
 rcases r with⟨rfl,rfl⟩|⟨a,o,cap,rfl,_,ra⟩
 ·rfl
 ·cases xs with
  |nil=>rfl
  |cons x xs=>
   have key:∀cells:T AV,(∀i y,(x::xs)[i]?=some y->cells.get (o+i)=some y)->getList cells o ((x::xs).length*1)=some (x::xs):=fun cells hc=>by
        rw[Nat.mul_one]
        exact getList_of cells _ o hc
   have h0:=ra 0 x rfl
   have e1:Nat.beq 1 1=true:=rfl
   have e2:(x::xs).length=xs.length+1:=rfl
   cases hg:h.t.get a with
   |none=>unfold ldA at h0;rw[hg]at h0;cases h0
   |some ob=>
    cases ob with
    |row cells len e=>
     have hc:∀i y,(x::xs)[i]?=some y->cells.get (o+i)=some y:=fun i y hi=>by
      have:=ra i y hi
      rw[rLdA,hg,Nat.mul_one]at this
      exact this
     have hk:=key cells hc
     unfold srcA
     rw[e2]at hk⊢
     simp only[e1,cond_true,hg,hk]
    |tab cells=>
     have hc:∀i y,(x::xs)[i]?=some y->cells.get (o+i)=some y:=fun i y hi=>by
      have:=ra i y hi
      rw[rLdA,hg,Nat.mul_one]at this
      exact this
     have hk:=key cells hc
     unfold srcA
     rw[e2]at hk⊢
     simp only[e1,cond_true,hg,hk]
    |_=>unfold ldA at h0;rw[hg]at h0;cases h0
def uL(l:List Int):List AV:=l.map fun x:Int=>AV.int .u64 x
def iL(l:List Int):List AV:=l.map fun x:Int=>AV.int .i64 x
def valN(k n:Int)(l:List Int):Int:=if k=2 then n else if k=3 then(l.length:Int)+1 else 1
theorem w232(P:Program){call:CallE}{h:H}{k n:Int}{v:AV}{l:List Int}(hv:RdL none 1 h v (uL l)):
 WF P call c232 [.agg [.int .u8 k,.int .i64 n,v]] h fun v' h'=>v'=.int .i64 (valN k n l)∧StepN h h':=by
 have ov:=hv.one
 have hvl:=hv.lenA
 have hle:=hv.le
 unfold uL at hvl hle
 rw[List.length_map]at hvl hle
 have f1:fw .i64 ((l.length:Int)+1)=(l.length:Int)+1:=fwI (by omega) (by omega)
 by_cases k2:k=2
 ·subst k2
  simp only[go_sem,seval,ov,valN]
  exact StepN.new h _
 by_cases k3:k=3
 ·subst k3
  simp only[go_sem,seval,ov,hvl,f1,valN]
  exact StepN.new h _
 simp only[go_sem,seval,ov,k2,k3,valN]
 exact StepN.new h _
theorem w155(P:Program){call:CallE}(h99:∀h k n v (l:List Int),RdL none 1 h v (uL l)->(∀a,own v=some a->a<h.next)->∃v' h',call 112 [.agg [.int .u8 k,.int .i64 n,v]] h=some (v',h')∧SaysE (domB k n l) h v' h')
 (h100:∀h k n v (l:List Int),RdL none 1 h v (uL l)->∃v' h',call 232 [.agg [.int .u8 k,.int .i64 n,v]] h=some (v',h')∧v'=.int .i64 (valN k n l)∧StepN h h')
 {h:H} {k n:Int} {v:AV} {l:List Int} (hd:domB k n l) (hv:RdL none 1 h v (uL l)) (hlv:∀a,own v=some a->a<h.next):
 WF P call c155 [.agg [.int .u8 k,.int .i64 n,v]] h fun v' h'=>v'=.tup [.int .i64 (valN k n l),.int .i64 0]∧StepN h h':=by
 have ov:=hv.one
 have st0:=StepN.new h (.row (putList 0 [.int .u8 k,.int .i64 n,v] T.e) 3 24)
 have hv1:=hv.keep fun b hb=>st0.old b (hlv b hb)
 simp only[go_sem,seval,ov]
 refine opt_by (h99 _ k n v l hv1 fun a ha=>Nat.lt_succ_of_lt (hlv a ha)) fun v1 h1 p1=>?_
 obtain⟨e,rfl,he,st1⟩:=p1
 obtain rfl:=he.2 hd
 have g1:=st1.old h.next (Nat.lt_succ_self _)
 simp only[go_sem,seval]at g1
 simp only[go_sem,seval,g1]
 have st01:=st0.trans st1
 refine opt_by (h100 _ k n v l (hv.keep fun b hb=>st01.old b (hlv b hb))) fun v2 h2 p2=>?_
 obtain⟨rfl,st2⟩:=p2
 simp only[go_sem,seval]
 exact st01.trans st2
def engN(c:CfgT):Int:=if c.engine=1 then c.slots else if c.engine=2 then 2*c.slots else 4*c.buckets
theorem engOK{c:CfgT}(h:layB c):1<=engN c∧engN c<=128:=by
 obtain⟨_,_,h2,h3,h4,h5,h6,_⟩:=h
 unfold engN
 by_cases e1:c.engine=1
 ·rw[if_pos e1];omega
 by_cases e2:c.engine=2
 ·rw[if_neg e1,if_pos e2];omega
 have:=h5 (by omega)
 rw[if_neg e1,if_neg e2];omega
theorem w157(P:Program){call:CallE}{h:H}{c:CfgT}{v:AV}(hc:layB c)(hv:oneA v=true):
 WF P call c157 [.agg (cfgC c v)] h fun v' h'=>v'=.int .i64 (engN c)∧StepN h h':=by
 obtain⟨_,_,h2,h3,h4,h5,h6,_⟩:=hc
 have st:∀x y,StepN h ⟨h.next+2,((h.t.set h.next x).set (h.next+1) y)⟩:=fun x y=>⟨Nat.le_add_right _ _,fun b hb=>by
  have e1:¬b=h.next:=by omega
  have e2:¬b=h.next+1:=by omega
  simp only[go_sem,seval,e1,e2]⟩
 have f1:fw .i64 (2*c.slots)=2*c.slots:=fwI (by omega) (by omega)
 have hb:0<=c.buckets∧c.buckets<=16:=by
  by_cases e:c.engine=3
  ·have:=h5 e;omega
  ·have:=h6 e;omega
 have f2:fw .i64 (4*c.buckets)=4*c.buckets:=fwI (by omega) (by omega)
 have m1:¬h.next+1=h.next:=by omega
 have m2:¬h.next=h.next+1:=by omega
 by_cases e1:c.engine=1
 ·simp only[go_sem,seval,hv,cfgC,f1,f2,m1,m2,e1,engN]
  exact st _ _
 by_cases e2:c.engine=2
 ·simp only[go_sem,seval,hv,cfgC,f1,f2,m1,m2,e2,engN]
  exact st _ _
 have e3:c.engine=3:=by omega
 simp only[go_sem,seval,hv,cfgC,f1,f2,m1,m2,e3,engN]
 exact st _ _
theorem appA_emp{e:TypeId}{es bytes n a bl:Nat}{cells:T AV}{h:H}{src:List AV}(hg:h.t.get a=some (.row cells bl e))(hn:0<n)(hb:(2*n+192)*bytes<=281474976710656)(hle:n<=281474976710656):
 appA h e es bytes (.sl a 0 0 es (some 0)) n src=some (appV h es n,appT h e .nils src):=by
 obtain⟨m,rfl⟩:∃m,n=m+1:=⟨n-1,by omega⟩
 have b1:Nat.ble ((2*(m+1)+192)*bytes) 281474976710656=true:=Nat.ble_eq_true_of_le hb
 have b2:Nat.ble (m+1) 281474976710656=true:=Nat.ble_eq_true_of_le hle
 have c1:Nat.beq es es=true:=by simp
 have c2:Nat.beq e e=true:=by simp
 have c93:Nat.ble (0+(m+1)) 0=false:=by rw[ble_eq,decide_eq_false_iff_not];omega
 unfold appA
 simp only[c1,cond_true,hg,c2,c93,cond_false,Nat.zero_mul,getList_zero,appNew,Nat.zero_add,b1,b2,Bool.and_self]
 rfl
theorem appA_sl0{e:TypeId}{es bytes a o l es':Nat}{c:Option Nat}{h:H}:appA h e es bytes (.sl a o l es' c) 0 []=some (.sl a o l es' c,h):=rfl
structure CopyU(l:List Int)(h:H)(v:AV)(h':H):Prop where
 rd:RdL none 1 h' v (uL l)
 lo:∀a,own v=some a->h.next<=a∧a<h'.next
 st:StepN h h'
theorem w154{h:H}{v:AV}{l:List Int}(hv:RdL none 1 h v (uL l))(hlv:∀a,own v=some a->a<h.next)(hl:l.length<=1000):
 WF P call c154 [v] h (CopyU l h):=by
 rcases id hv with⟨rfl,h0⟩|⟨a,o,cap,rfl,h1,h2⟩
 ·simp only[go_sem,seval,snil0]
  exact⟨.inl ⟨rfl,h0⟩,fun a ha=>(by cases ha),StepN.refl h⟩
 ·have st0:=StepN.new h (.row (putList 0 [] T.e) 0 51)
  have hs:=(hv.keep fun b hb=>st0.old b (hlv b hb)).src1
  have hlen:(uL l).length=l.length:=List.length_map _
  simp only[go_sem,seval]at hs
  simp only[go_sem,seval,snil,hs]
  by_cases hz:l.length=0
  ·have:l=[]:=List.eq_nil_of_length_eq_zero hz
   subst this
   refine opt_some appA_sl0 ?_
   simp only[go_sem,seval]
   exact⟨.inr ⟨_,_,_,rfl,by decide,fun i x hx=>(by cases hx)⟩,fun a ha=>(by cases ha;exact⟨Nat.le_refl _,Nat.lt_succ_self _⟩),st0⟩
  ·refine opt_some (appA_emp (by simp only[go_sem,seval];rfl) (by omega) (by omega) (by omega)) ?_
   simp only[go_sem,seval]
   refine⟨.inr ⟨h.next+1,0,none,rfl,by omega,fun i x hx=>?_⟩,fun a ha=>?_,⟨by show h.next<=h.next+1+1;omega,fun b hb=>?_⟩⟩
   ·rw[rLdA,Nat.mul_one,Nat.zero_add]
    unfold appT
    simp only[go_sem,seval]
    exact hx
   ·cases ha
    exact⟨by show h.next<=h.next+1;omega,by show h.next+1<h.next+1+1;omega⟩
   ·have e1:¬b=h.next:=by omega
    have e2:¬b=h.next+1:=by omega
    unfold appT
    simp only[go_sem,seval,e1,e2]
structure PlT where
 ow:Int
 en:Int
 ma:Int
 lo:Int
 de:Int
 po:Int
 li:Int
 he:Int
 tw:Int
 wo:Int
def plC(p:PlT):List AV:=[.int .i64 p.ow,.int .i64 p.en,.int .i64 p.ma,.int .i64 p.lo,.int .i64 p.de,.int .i64 p.po,.int .i64 p.li,.int .i64 p.he,.int .i64 p.tw,.int .i64 p.wo]
structure LayH(h:H)(L:Nat)(c:CfgT)(p:PlT)(hs:List Int):Prop where
 ex:∃cv gv hv tv val,h.t.get L=some (rowL (cfgC c cv++(plC p++[gv,hv,tv,.int .i64 val])) 315)∧RdL none 1 h cv (uL c.cuts)∧(∀a,own cv=some a->a<h.next)∧RdL none 1 h hv (iL hs)∧(∀a,own hv=some a->a<h.next)∧oneA gv=true∧oneA tv=true
 lt:L<h.next
theorem LayH.step{h h':H}{L:Nat}{c:CfgT}{p:PlT}{hs:List Int}(l:LayH h L c p hs)(s:StepN h h'):LayH h' L c p hs:=by
 obtain⟨cv,gv,hv,tv,val,g,r1,r2,r3,r4,o1,o2⟩:=l.ex
 exact⟨⟨cv,gv,hv,tv,val,(s.old L l.lt).trans g,r1.keep fun b hb=>s.old b (r2 b hb),fun a ha=>Nat.lt_of_lt_of_le (r2 a ha) s.next,r3.keep fun b hb=>s.old b (r4 b hb),fun a ha=>Nat.lt_of_lt_of_le (r4 a ha) s.next,o1,o2⟩,Nat.lt_of_lt_of_le l.lt s.next⟩
theorem w161{h:H}{L:Nat}{c:CfgT}{p:PlT}{hs:List Int}(hL:LayH h L c p hs):WF P call c161 [.ptr L 0] h fun v h'=>v=.int .i64 (hs.length:Int)∧h'=h:=by
 obtain⟨cv,gv,hv,tv,val,g,r1,r2,r3,r4,o1,o2⟩:=hL.ex
 have hl:=r3.lenA
 unfold iL at hl
 rw[List.length_map]at hl
 simp only[go_sem,seval,g,cfgC,plC,hl]
theorem w160(P:Program){call:CallE}{h:H}{t:Int}(h0:0<=t)(h1:t<=1024):WF P call c160 [.int .u64 0,.int .i64 t] h fun v h'=>v=.tup [.int .u64 t,.int .i64 0]∧h'=h:=by
 have e1:¬t<0:=by omega
 have e2:¬1024<t:=by omega
 have f1:fw .u64 t=t:=fwU (by omega) (by omega)
 have f2:fw .u64 (65536*0)=0:=rfl
 simp only[go_sem,↓reduceIte,↓reduceDIte,Nat.reduceAdd,Nat.reduceMul,Nat.reduceLT,Nat.reduceEqDiff,Nat.reduceLeDiff,Int.reduceAdd,Int.reduceLE,Int.reduceLT,Int.reduceEq,Int.reduceToNat,reduceCtorEq,e1,e2,f2,Int.add_zero,f1]
end
end Go.Proofs.YtghmnaojmpjglaaGreatDoor.PR
