/-
  What functions of the program compute. Conditions: those of each theorem.
-/
import Derived.Test.YtgkjlklfjbljeaaGreatEoE
set_option linter.all false
namespace Go.Proofs.YtgkjlklfjbljeaaGreat.CQ
open Go.Proofs.YtgkjlklfjbljeaaGreat.Eo
noncomputable section
abbrev Fj:=List SQ
abbrev DQs:=List (List DQ×Option DQ)
@[go_sem]def aN:AV:=.int .i64 0
@[go_sem]def cY:AV:=.int .u64 0
@[go_sem]def ya:AV:=.int .u8 0
@[go_sem]def bO:AV:=.bool false
@[go_sem]def Rq(a:List SQ):CC:=.seq (.ops a) .ret
@[go_sem]def Kq(n:Nat)(a:List SQ)(b:CC):CC:=.cond (.t n) (.seq (.ops a) .ret) b
@[go_sem]def Sq(a:List SQ)(b:CC):CC:=.seq (.ops a) b
@[go_sem]def Qq(a b:CC):CC:=.seq a b
@[go_sem]def Oq(a:List SQ):CC:=.ops a
@[go_sem]def Cq(n:Nat)(a b:CC):CC:=.cond (.t n) a b
@[go_sem]def a(x0 x1:Nat):SQ:=⟨some x0,none,.p (.mv (.t x1))⟩
@[go_sem]def b(x0:Nat)(x1:Int):SQ:=⟨some x0,none,.p (.mv (.c (.int .i64 x1)))⟩
@[go_sem]def d(x0 x1 x2:Nat):SQ:=⟨some x0,none,.p (.uC x1 (.t x2))⟩
@[go_sem]def g(x0 x1:Nat):DQ:=⟨x0,[(x1,none)],none,.p (.mv (.t x1))⟩
@[go_sem]def i(x0 x1:Nat):SQ:=⟨some x0,none,.r (.ld none (.t x1))⟩
@[go_sem]def j(x0 x1:Nat):SQ:=⟨some x0,none,.p (.rp (.t x1))⟩
@[go_sem]def k(x0 x1 x2:Nat):DQ:=⟨x0,[(x1,(some x2))],none,.r (.ld none (.t x1))⟩
@[go_sem]def m(x0 x1 x2 x3:Nat):DQ:=⟨x0,[(x1,(some x2))],none,.p (.uC x3 (.t x1))⟩
@[go_sem]def n(x0 x1 x2:Nat):DQ:=⟨x0,[(x1,(some x2))],none,.p (.rp (.t x1))⟩
@[go_sem]def o(x0 x1 x2:Nat):SQ:=⟨some x0,none,.p (.GP (.t x1) x2)⟩
@[go_sem]def p(x0:Nat):SQ:=⟨some x0,none,.p (.mv (.c .aJ))⟩
@[go_sem]def q(x0 x1 x2:Nat):SQ:=⟨some x0,none,.cv (.c (.fn (.func x1) [] [])) [(.t x2)]⟩
@[go_sem]def r(x0 x1 x2:Nat):SQ:=⟨some x0,some (x1,false),.p (.mv (.t x2))⟩
@[go_sem]def s(x0 x1 x2:Nat):SQ:=⟨none,none,.e (.st x0 (.t x1) (.t x2))⟩
@[go_sem]def t(x0 x1 x2:Nat):DQ:=⟨x0,[(x1,(some x2))],none,.p (.mv (.t x1))⟩
@[go_sem]def u(x0 x1 x2:Nat):SQ:=⟨some x0,none,.p (.pick (.t x1) (.c (.bool true)) (.t x2))⟩
@[go_sem]def v(x0:Nat)(x1:Int):SQ:=⟨some x0,none,.p (.mv (.c (.int .u8 x1)))⟩
@[go_sem]def w(x0:Nat):SQ:=⟨some x0,none,.p (.mv (.c (.bool false)))⟩
@[go_sem]def y(x0 x1 x2:Nat):SQ:=⟨some x0,none,.p (.bin .eql x1 false true (.t x2) (.c .aJ))⟩
@[go_sem]def z(x0 x1 x2:Nat):SQ:=⟨some x0,none,.n (.box x1 (.t x2))⟩
@[go_sem]def A(x0 x1 x2:Nat)(x3:Int):SQ:=⟨some x0,none,.p (.bin .neq x1 false true (.t x2) (.c (.int .i64 x3)))⟩
@[go_sem]def B(x0 x1 x2 x3:Nat):DQ:=⟨x0,[(x1,(some x2))],none,.p (.GP (.t x1) x3)⟩
@[go_sem]def C(x0 x1 x2:Nat)(x3:Int):SQ:=⟨some x0,none,.p (.bin .add x1 false true (.t x2) (.c (.int .i64 x3)))⟩
@[go_sem]def D(x0 x1 x2:Nat)(x3:Int):SQ:=⟨some x0,none,.p (.bin .lss x1 false true (.t x2) (.c (.int .i64 x3)))⟩
@[go_sem]def E(x0 x1 x2:Nat):SQ:=⟨some x0,some (x1,false),.r (.ld none (.t x2))⟩
@[go_sem]def G(x0 x1 x2 x3:Nat):SQ:=⟨some x0,none,.p (.mj x1 (.t x2) (.t x3))⟩
@[go_sem]def J(x0 x1 x2 x3:Nat):SQ:=⟨some x0,some (x1,false),.p (.uC x2 (.t x3))⟩
@[go_sem]def K(x0 x1 x2:Nat):SQ:=⟨some x0,some (x1,true),.p (.mv (.t x2))⟩
@[go_sem]def L(x0 x1 x2:Nat)(x3:Int):SQ:=⟨some x0,none,.p (.bin .eql x1 false true (.t x2) (.c (.int .u8 x3)))⟩
@[go_sem]def M(x0 x1 x2 x3:Nat):SQ:=⟨some x0,none,.cv (.c (.fn (.func x1) [] [])) [(.t x2),(.t x3)]⟩
@[go_sem]def N(x0 x1:Nat):SQ:=⟨some x0,none,.p (.As (.t x1))⟩
@[go_sem]def O(x0 x1 x2:Nat):SQ:=⟨some x0,none,.p (.pick (.t x1) (.t x2) (.c (.bool false)))⟩
@[go_sem]def Q(x0 x1 x2 x3 x4:Nat):SQ:=⟨some x0,none,.cv (.c (.fn (.func x1) [] [])) [(.t x2),(.t x3),(.t x4)]⟩
@[go_sem]def R(x0 x1 x2:Nat):DQ:=⟨x0,[(x1,none)],none,.p (.uC x2 (.t x1))⟩
@[go_sem]def S(x0 x1 x2:Nat):SQ:=⟨some x0,none,.r (.ld (some x1) (.t x2))⟩
@[go_sem]def U(x0:Nat):SQ:=⟨some x0,none,.p (.mv (.c .ax))⟩
@[go_sem]def V(x0 x1 x2 x3 x4 x5:Nat):DQ:=⟨x0,[(x1,(some x2)),(x3,(some x4))],none,.e (.st x5 (.t x1) (.t x3))⟩
@[go_sem]def W(x0 x1:Nat):DQ:=⟨x0,[(x1,none)],none,.r (.ld none (.t x1))⟩
@[go_sem]def Y(x0 x1 x2 x3 x4 x5:Nat):DQ:=⟨x0,[(x1,(some x2)),(x3,(some x4))],none,.p (.mj x5 (.t x1) (.t x3))⟩
@[go_sem]def Z(x0 x1 x2 x3:Nat):DQ:=⟨x0,[(x1,(some x2))],none,.cv (.c (.fn (.func x3) [] [])) [(.t x1)]⟩
@[go_sem]def qa(x0 x1:Nat):SQ:=⟨some x0,none,.p (.un .not (.t x1))⟩
@[go_sem]def qb(x0 x1 x2 x3:Nat)(x4:Int):SQ:=⟨some x0,some (x1,false),.p (.bin .gtr x2 false true (.t x3) (.c (.int .i64 x4)))⟩
@[go_sem]def qc(x0 x1 x2 x3:Nat):SQ:=⟨some x0,none,.p (.bin .lss x1 false false (.t x2) (.t x3))⟩
@[go_sem]def qd(x0:Nat)(x1:Int):SQ:=⟨some x0,none,.p (.mv (.c (.int .u64 x1)))⟩
@[go_sem]def qe(x0 x1 x2:Nat)(x3:Int):SQ:=⟨some x0,none,.p (.bin .eql x1 false true (.t x2) (.c (.int .i64 x3)))⟩
@[go_sem]def qf(x0 x1 x2:Nat):SQ:=⟨some x0,some (x1,false),.p (.rp (.t x2))⟩
@[go_sem]def qg(x0 x1 x2 x3:Nat):SQ:=⟨some x0,none,.p (.bin .add x1 false false (.t x2) (.t x3))⟩
@[go_sem]def qh(x0 x1 x2:Nat):SQ:=⟨some x0,some (x1,true),.r (.ld none (.t x2))⟩
@[go_sem]def qi(x0 x1 x2 x3:Nat):SQ:=⟨some x0,some (x1,true),.p (.uC x2 (.t x3))⟩
@[go_sem]def qj(x0 x1:Nat)(x2:Int):SQ:=⟨none,none,.e (.st x0 (.t x1) (.c (.int .u8 x2)))⟩
@[go_sem]def qk(x0 x1 x2 x3:Nat)(x4:Int):SQ:=⟨some x0,some (x1,false),.p (.bin .geq x2 false true (.t x3) (.c (.int .i64 x4)))⟩
@[go_sem]def ql(x0 x1 x2:Nat)(x3:Int):SQ:=⟨some x0,none,.p (.bin .sub x1 false true (.t x2) (.c (.int .i64 x3)))⟩
@[go_sem]def qm(x0 x1 x2 x3 x4 x5 x6 x7:Nat):DQ:=⟨x0,[(x1,(some x2)),(x3,(some x4)),(x5,(some x6))],none,.cv (.c (.fn (.func x7) [] [])) [(.t x1),(.t x3),(.t x5)]⟩
@[go_sem]def qn(x0:Nat):SQ:=⟨some x0,none,.p (.mv (.c (.bool true)))⟩
@[go_sem]def qo(x0 x1 x2 x3 x4 x5:Nat):SQ:=⟨some x0,none,.e (.app x1 x2 x3 (.t x4) (.t x5))⟩
@[go_sem]def qp(x0 x1:Nat)(x2:Int):SQ:=⟨none,none,.e (.st x0 (.t x1) (.c (.int .i64 x2)))⟩
@[go_sem]def qq(x0 x1 x2 x3 x4 x5:Nat):DQ:=⟨x0,[(x1,(some x2)),(x3,(some x4))],none,.cv (.c (.fn (.func x5) [] [])) [(.t x1),(.t x3)]⟩
@[go_sem]def qr(x0 x1 x2:Nat):SQ:=⟨some x0,some (x1,true),.p (.As (.t x2))⟩
@[go_sem]def qs(x0 x1:Nat)(x2:Int)(x3:Nat):SQ:=⟨some x0,none,.p (.bin .mul x1 true false (.c (.int .i64 x2)) (.t x3))⟩
@[go_sem]def qt(x0 x1 x2:Nat):DQ:=⟨x0,[(x1,none)],none,.r (.ld (some x2) (.t x1))⟩
@[go_sem]def qu(x0 x1 x2:Nat):SQ:=⟨some x0,some (x1,false),.p (.As (.t x2))⟩
@[go_sem]def qv(x0 x1 x2 x3:Nat)(x4:Int):SQ:=⟨some x0,some (x1,false),.p (.bin .lss x2 false true (.t x3) (.c (.int .i64 x4)))⟩
@[go_sem]def qw(x0 x1 x2 x3 x4 x5 x6 x7 x8 x9:Nat):DQ:=⟨x0,[(x1,(some x2)),(x3,(some x4)),(x5,(some x6)),(x7,(some x8))],none,.cv (.c (.fn (.func x9) [] [])) [(.t x1),(.t x3),(.t x5),(.t x7)]⟩
@[go_sem]def qx(x0 x1:Nat)(x2:Int)(x3:Nat):SQ:=⟨none,none,.m (.lq x0 (.t x1) (.c (.int .u8 x2)) (.c (.fn (.func x3) [] [])))⟩
@[go_sem]def qy(x0 x1 x2 x3:Nat)(x4:Int):SQ:=⟨some x0,some (x1,true),.p (.bin .lss x2 false true (.t x3) (.c (.int .i64 x4)))⟩
@[go_sem]def qz(x0 x1 x2:Nat):SQ:=⟨some x0,some (x1,false),.p (.un .not (.t x2))⟩
@[go_sem]def qA(x0 x1 x2 x3 x4:Nat):SQ:=⟨some x0,none,.p (.tP x1 x2 (.t x3) (.t x4))⟩
@[go_sem]def qB(x0 x1 x2 x3 x4 x5:Nat):DQ:=⟨x0,[(x1,(some x2)),(x3,(some x4))],none,.p (.bin .add x5 false false (.t x1) (.t x3))⟩
@[go_sem]def qC(x0 x1 x2:Nat):SQ:=⟨some x0,none,.p (.ML x1 (.t x2))⟩
@[go_sem]def qD(x0 x1:Nat):SQ:=⟨some x0,none,.p (.conv .i64 (.t x1))⟩
@[go_sem]def qE(x0 x1 x2:Nat)(x3:Int):SQ:=⟨some x0,none,.p (.bin .rem x1 false true (.t x2) (.c (.int .u64 x3)))⟩
@[go_sem]def qF(x0:Nat):SQ:=⟨some x0,none,.p (.mv (.c .pC))⟩
@[go_sem]def qG(x0 x1 x2 x3 x4:Nat):SQ:=⟨some x0,some (x1,false),.p (.bin .geq x2 false false (.t x3) (.t x4))⟩
@[go_sem]def qH(x0 x1 x2 x3:Nat):SQ:=⟨some x0,some (x1,false),.cv (.c (.fn (.func x2) [] [])) [(.t x3)]⟩
@[go_sem]def qI(x0 x1 x2 x3:Nat)(x4:Int):DQ:=⟨x0,[(x1,(some x2))],none,.p (.bin .sub x3 false true (.t x1) (.c (.int .i64 x4)))⟩
@[go_sem]def qJ(x0 x1 x2 x3 x4 x5 x6 x7:Nat):DQ:=⟨x0,[(x1,(some x2)),(x3,(some x4))],none,.e (.app x5 x6 x7 (.t x1) (.t x3))⟩
@[go_sem]def qK(x0 x1 x2:Nat):DQ:=⟨x0,[(x1,(some x2))],none,.p (.As (.t x1))⟩
@[go_sem]def qM(x0 x1 x2 x3:Nat)(x4:Int)(x5 x6 x7:Nat):SQ:=⟨some x0,none,.n (.fl x1 x2 x3 [.int .i64 x4] [(x5,x6,(.t x7))])⟩
@[go_sem]def qN(x0 x1 x2 x3 x4:Nat):DQ:=⟨x0,[(x1,(some x2)),(x3,none)],some (x4,true),.p (.mv (.t x3))⟩
@[go_sem]def qO(x0 x1 x2 x3:Nat)(x4:Int):SQ:=⟨some x0,some (x1,true),.p (.bin .eql x2 false true (.t x3) (.c (.int .i64 x4)))⟩
@[go_sem]def qP(x0 x1 x2:Nat)(x3:Int):SQ:=⟨some x0,none,.p (.bin .geq x1 false true (.t x2) (.c (.int .i64 x3)))⟩
@[go_sem]def qQ(x0 x1:Nat):SQ:=⟨some x0,none,.p (.conv .u64 (.t x1))⟩
@[go_sem]def qR(x0 x1 x2 x3:Nat)(x4:Int):DQ:=⟨x0,[(x1,(some x2))],none,.p (.bin .add x3 false true (.t x1) (.c (.int .i64 x4)))⟩
@[go_sem]def qS(x0:Nat)(x1:Int):DQ:=⟨x0,[],none,.p (.mv (.c (.int .i64 x1)))⟩
@[go_sem]def qT(x0 x1 x2 x3:Nat):SQ:=⟨some x0,none,.p (.Qf x1 x2 (.t x3))⟩
@[go_sem]def qU(x0 x1 x2 x3 x4 x5 x6 x7 x8 x9 Au Cr:Nat):DQ:=⟨x0,[(x1,(some x2)),(x3,(some x4)),(x5,(some x6)),(x7,(some x8)),(x9,(some Au))],none,.cv (.c (.fn (.func Cr) [] [])) [(.t x1),(.t x3),(.t x5),(.t x7),(.t x9)]⟩
@[go_sem]def qV(x0 x1 x2:Nat)(x3:Int):SQ:=⟨some x0,none,.p (.bin .eql x1 false true (.t x2) (.c (.int .u64 x3)))⟩
@[go_sem]def qW(x0 x1 x2:Nat)(x3:Int):SQ:=⟨some x0,none,.p (.bin .gtr x1 false true (.t x2) (.c (.int .i64 x3)))⟩
@[go_sem]def qX(x0 x1:Nat)(x2:Int)(x3:Nat):SQ:=⟨some x0,none,.p (.bin .add x1 true false (.c (.int .i64 x2)) (.t x3))⟩
@[go_sem]def qY(x0 x1 x2 x3:Nat):DQ:=⟨x0,[(x1,(some x2))],none,.n (.box x3 (.t x1))⟩
@[go_sem]def qZ(x0 x1 x2 x3:Nat):SQ:=⟨some x0,none,.p (.bin .neq x1 false false (.t x2) (.t x3))⟩
@[go_sem]def q0(x0 x1 x2 x3:Nat)(x4:Int):DQ:=⟨x0,[(x1,(some x2))],none,.p (.bin .add x3 true false (.c (.int .i64 x4)) (.t x1))⟩
@[go_sem]def q1(x0 x1 x2 x3:Nat):SQ:=⟨some x0,none,.p (.bin .eql x1 false false (.t x2) (.t x3))⟩
@[go_sem]def q2(x0 x1:Nat)(x2:Int)(x3:Nat):SQ:=⟨some x0,none,.p (.bin .sub x1 true false (.c (.int .i64 x2)) (.t x3))⟩
@[go_sem]def q3(x0 x1 x2 x3 x4:Nat):DQ:=⟨x0,[(x1,(some x2)),(x3,(some x4))],none,.p (.pick (.t x1) (.t x3) (.c (.bool false)))⟩
@[go_sem]def q4(x0 x1 x2:Nat)(x3:Int):SQ:=⟨some x0,none,.p (.bin .quo x1 false true (.t x2) (.c (.int .u64 x3)))⟩
@[go_sem]def q5(x0 x1 x2 x3 x4:Nat):DQ:=⟨x0,[(x1,(some x2)),(x3,none)],some (x4,false),.p (.mv (.t x3))⟩
@[go_sem]def q6(x0 x1 x2:Nat)(x3:Int):SQ:=⟨some x0,none,.cv (.c (.fn (.func x1) [] [])) [(.t x2),(.c (.int .i64 x3))]⟩
@[go_sem]def q7(x0 x1 x2:Nat)(x3:Int)(x4:Nat):SQ:=⟨some x0,none,.cv (.c (.fn (.func x1) [] [])) [(.t x2),(.c (.int .i64 x3)),(.t x4)]⟩
@[go_sem]def q8(x0 x1 x2:Nat)(x3 x4:Int):SQ:=⟨some x0,none,.cv (.c (.fn (.func x1) [] [])) [(.t x2),(.c (.int .i64 x3)),(.c (.int .i64 x4))]⟩
@[go_sem]def q9(x0 x1 x2 x3 x4:Nat):SQ:=⟨some x0,some (x1,false),.p (.bin .gtr x2 false false (.t x3) (.t x4))⟩
@[go_sem]def za(x0 x1 x2 x3:Nat):SQ:=⟨some x0,some (x1,true),.p (.pick (.t x2) (.c (.bool true)) (.t x3))⟩
@[go_sem]def zb(x0 x1:Nat)(x2 x3 x4 x5 x6 x7 x8 x9 Au Cr Iu MM RF RG X6:Int):SQ:=⟨some x0,none,.n (.new x1 [.int .i64 x2,.int .i64 x3,.int .u8 x4,.int .i64 x5,.int .u8 x6,.int .i64 x7,.ax,.int .i64 x8,.int .i64 x9,.int .i64 Au,.int .i64 Cr,.int .i64 Iu,.int .i64 MM,.int .i64 RF,.int .i64 RG,.int .i64 X6])⟩
@[go_sem]def zc(x0 x1 x2 x3 x4:Nat)(x5 x6:Int):DQ:=⟨x0,[(x1,(some x2)),(x3,(some x4))],none,.cv (.t x1) [(.c (.int .u8 x5)),(.t x3),(.c (.int .i64 x6))]⟩
@[go_sem]def zd(x0 x1 x2:Nat):SQ:=⟨some x0,some (x1,true),.p (.rp (.t x2))⟩
@[go_sem]def ze(x0 x1 x2 x3 x4:Nat):SQ:=⟨some x0,some (x1,true),.p (.bin .eql x2 false false (.t x3) (.t x4))⟩
@[go_sem]def zf(x0:Nat):SQ:=⟨some x0,none,.n .Fk⟩
@[go_sem]def zg(x0 x1 x2 x3 x4 x5 x6:Nat)(x7:Int):DQ:=⟨x0,[(x1,(some x2)),(x1,(some x3))],none,.n (.yb x4 x5 x6 [.int .i64 x7] (.t x1) (.t x1))⟩
@[go_sem]def zh(x0 x1 x2 x3:Nat)(x4 x5 x6:Int):SQ:=⟨some x0,none,.cv (.c (.fn (.func x1) [] [])) [(.t x2),(.t x3),(.c (.int .u8 x4)),(.c (.int .i64 x5)),(.c (.int .i64 x6))]⟩
@[go_sem]def zi(x0 x1 x2 x3 x4 x5:Nat):DQ:=⟨x0,[(x1,(some x2)),(x3,(some x4))],none,.p (.bin .eql x5 false false (.t x1) (.t x3))⟩
@[go_sem]def zj(x0 x1 x2 x3:Nat)(x4:Int):SQ:=⟨some x0,some (x1,false),.p (.bin .eql x2 false true (.t x3) (.c (.int .i64 x4)))⟩
@[go_sem]def zk(x0 x1:Nat):SQ:=⟨none,none,.e (.st x0 (.t x1) (.c (.bool true)))⟩
@[go_sem]def zl(x0 x1 x2:Nat)(x3:Int):SQ:=⟨some x0,none,.p (.bin .neq x1 false true (.t x2) (.c (.int .u8 x3)))⟩
@[go_sem]def zm(x0 x1 x2 x3:Nat)(x4:Int):SQ:=⟨some x0,some (x1,false),.p (.bin .eql x2 false true (.t x3) (.c (.int .u8 x4)))⟩
@[go_sem]def zn(x0 x1 x2:Nat):DQ:=⟨x0,[(x1,(some x2))],none,.p (.conv .u64 (.t x1))⟩
@[go_sem]def zo(x0 x1 x2 x3 x4:Nat):SQ:=⟨some x0,some (x1,false),.cv (.c (.fn (.func x2) [] [])) [(.t x3),(.t x4)]⟩
@[go_sem]def zp(x0 x1:Nat)(x2:Int):SQ:=⟨some x0,none,.cv (.t x1) [(.c (.int .i64 x2))]⟩
@[go_sem]def zq(x0 x1 x2 x3:Nat)(x4:Int):DQ:=⟨x0,[(x1,(some x2))],none,.cv (.c (.fn (.func x3) [] [])) [(.t x1),(.c (.int .i64 x4))]⟩
@[go_sem]def zr(x0 x1 x2 x3:Nat)(x4:Int)(x5:Nat):SQ:=⟨some x0,none,.n (.yb x1 x2 x3 [.int .u64 x4] (.t x5) (.t x5))⟩
@[go_sem]def zs(x0 x1 x2 x3:Nat):SQ:=⟨some x0,none,.p (.bin .leq x1 false false (.t x2) (.t x3))⟩
@[go_sem]def zt(x0 x1 x2 x3:Nat)(x4 x5:Int):SQ:=⟨some x0,some (x1,false),.cv (.c (.fn (.func x2) [] [])) [(.t x3),(.c (.int .i64 x4)),(.c (.int .i64 x5))]⟩
@[go_sem]def zu(x0 x1 x2 x3:Nat)(x4:Int):SQ:=⟨some x0,some (x1,false),.p (.bin .neq x2 false true (.t x3) (.c (.int .i64 x4)))⟩
@[go_sem]def zv(x0 x1 x2 x3:Nat):SQ:=⟨some x0,none,.p (.build [.pC] [(x1,x2,(.t x3))])⟩
@[go_sem]def zw(x0 x1 x2 x3:Nat):SQ:=⟨some x0,some (x1,false),.p (.bin .eql x2 false true (.t x3) (.c .aJ))⟩
@[go_sem]def zx(x0 x1 x2 x3 x4:Nat):DQ:=⟨x0,[(x1,(some x2))],none,.p (.Qf x3 x4 (.t x1))⟩
@[go_sem]def zy(x0 x1 x2 x3:Nat):SQ:=⟨some x0,none,.p (.bin .rem x1 false false (.t x2) (.t x3))⟩
@[go_sem]def zz(x0 x1 x2 x3:Nat)(x4:Int):SQ:=⟨some x0,none,.cv (.c (.fn (.func x1) [] [])) [(.t x2),(.t x3),(.c (.int .i64 x4))]⟩
@[go_sem]def zA(x0 x1 x2 x3 x4 x5:Nat)(x6:Int):DQ:=⟨x0,[(x1,(some x2)),(x3,(some x4))],none,.cv (.c (.fn (.func x5) [] [])) [(.t x1),(.t x3),(.c (.int .i64 x6))]⟩
@[go_sem]def zB(x0 x1 x2 x3:Nat)(x4:Int):DQ:=⟨x0,[(x1,(some x2))],none,.p (.bin .add x3 false true (.t x1) (.c (.int .u64 x4)))⟩
@[go_sem]def zC(x0 x1 x2 x3:Nat):DQ:=⟨x0,[(x1,(some x2))],none,.e (.st x3 (.t x1) (.c (.bool false)))⟩
@[go_sem]def zD(x0 x1:Nat)(x2 x3 x4 x5:Int):SQ:=⟨some x0,none,.n (.new x1 [.int .i64 x2,.bool false,.int .u64 x3,.int .u64 x4,.int .i64 x5])⟩
@[go_sem]def zE(x0 x1 x2 x3 x4:Nat):SQ:=⟨some x0,none,.ci (.t x1) "Enter" [(.t x2),(.t x3),(.t x4)]⟩
@[go_sem]def zF(x0 x1 x2 x3:Nat):SQ:=⟨some x0,none,.p (.bin .geq x1 false false (.t x2) (.t x3))⟩
@[go_sem]def zG(x0 x1 x2 x3 x4:Nat):SQ:=⟨some x0,some (x1,true),.p (.bin .leq x2 false false (.t x3) (.t x4))⟩
@[go_sem]def zH(x0 x1 x2 x3:Nat)(x4:Int):SQ:=⟨some x0,some (x1,false),.p (.bin .gtr x2 false true (.t x3) (.c (.int .u8 x4)))⟩
@[go_sem]def zI(x0 x1 x2 x3:Nat):SQ:=⟨some x0,some (x1,false),.r (.ld (some x2) (.t x3))⟩
@[go_sem]def zJ(x0 x1 x2 x3:Nat):SQ:=⟨some x0,some (x1,false),.p (.pick (.t x2) (.t x3) (.c (.bool false)))⟩
@[go_sem]def zK(x0 x1:Nat)(x2 x3 x4 x5:Int):SQ:=⟨some x0,none,.n (.new x1 [.int .i64 x2,.int .i64 x3,.int .i64 x4,.int .i64 x5])⟩
@[go_sem]def zL(x0 x1 x2 x3:Nat):SQ:=⟨some x0,none,.n (.fl x1 x2 x3 [] [])⟩
@[go_sem]def zM(x0 x1 x2:Nat)(x3:Int):SQ:=⟨some x0,none,.p (.bin .gtr x1 false true (.t x2) (.c (.int .u64 x3)))⟩
@[go_sem]def zN(x0 x1 x2 x3:Nat):DQ:=⟨x0,[(x1,(some x2))],none,.r (.ld (some x3) (.t x1))⟩
@[go_sem]def zO(x0 x1 x2 x3:Nat):SQ:=⟨some x0,none,.p (.GQ (.func x1) [] [(.t x2),(.t x3)])⟩
@[go_sem]def zP(x0 x1 x2 x3 x4 x5 x6:Nat):DQ:=⟨x0,[(x1,(some x2)),(x1,(some x3))],none,.n (.yb x4 x5 x6 [.bool false] (.t x1) (.t x1))⟩
@[go_sem]def zQ(x0 x1 x2 x3 x4 x5 x6:Nat):SQ:=⟨some x0,none,.p (.build [.aJ,.aJ] [(x1,x2,(.t x3)),(x4,x5,(.t x6))])⟩
@[go_sem]def zR(x0 x1 x2 x3 x4 x5:Nat):DQ:=⟨x0,[(x1,(some x2)),(x3,(some x4))],none,.p (.bin .neq x5 false false (.t x1) (.t x3))⟩
@[go_sem]def zS(x0 x1 x2 x3 x4:Nat)(x5:Int)(x6 x7:Nat):SQ:=⟨some x0,none,.cv (.c (.fn (.func x1) [] [])) [(.t x2),(.t x3),(.t x4),(.c (.int .u8 x5)),(.t x6),(.t x7),(.c (.bool false))]⟩
@[go_sem]def zT(x0 x1 x2 x3 x4:Nat)(x5:Int)(x6:Nat):SQ:=⟨some x0,none,.cv (.c (.fn (.func x1) [] [])) [(.t x2),(.t x3),(.t x4),(.c (.int .u8 x5)),(.t x6),(.c (.bool false))]⟩
@[go_sem]def zU(x0 x1 x2:Nat):SQ:=⟨some x0,none,.p (.bin .neq x1 false true (.t x2) (.c .aJ))⟩
@[go_sem]def zV(x0:Nat)(x1 x2 x3:Int)(x4 x5:Nat)(x6:Int)(x7 x8 x9 Au Cr Iu:Nat):SQ:=⟨some x0,none,.p (.build [.int .u8 x1,.int .i64 x2,.int .i64 x3] [(x4,x5,(.c (.int .u8 x6))),(x7,x8,(.t x9)),(Au,Cr,(.t Iu))])⟩
@[go_sem]def zW(x0 x1 x2 x3 x4:Nat):SQ:=⟨some x0,some (x1,false),.p (.mj x2 (.t x3) (.t x4))⟩
@[go_sem]def zX(x0 x1 x2:Nat)(x3:Int):SQ:=⟨some x0,none,.p (.bin .add x1 false true (.t x2) (.c (.int .u64 x3)))⟩
@[go_sem]def zY(x0 x1 x2:Nat):SQ:=⟨some x0,none,.cv (.t x1) [(.t x2)]⟩
@[go_sem]def zZ(x0 x1 x2 x3:Nat)(x4:Int):DQ:=⟨x0,[(x1,(some x2))],none,.p (.bin .eql x3 false true (.t x1) (.c (.int .u8 x4)))⟩
@[go_sem]def z0(x0 x1 x2:Nat)(x3 x4 x5:Int)(x6 x7:Nat)(x8:Int)(x9 Au:Nat)(Cr:Int)(Iu MM:Nat):DQ:=⟨x0,[(x1,(some x2))],none,.p (.build [.int .u8 x3,.int .i64 x4,.int .u64 x5] [(x6,x7,(.c (.int .u8 x8))),(x9,Au,(.c (.int .i64 Cr))),(Iu,MM,(.t x1))])⟩
@[go_sem]def z1(x0 x1 x2:Nat)(x3:Int):SQ:=⟨some x0,none,.p (.mj x1 (.t x2) (.c (.int .i64 x3)))⟩
@[go_sem]def z2(x0 x1 x2 x3 x4:Nat):DQ:=⟨x0,[(x1,(some x2)),(x3,(some x4))],none,.cv (.t x1) [(.t x3)]⟩
@[go_sem]def z3(x0 x1 x2 x3:Nat)(x4:Int):DQ:=⟨x0,[(x1,(some x2))],none,.p (.bin .eql x3 false true (.t x1) (.c (.int .i64 x4)))⟩
@[go_sem]def z4(x0 x1 x2 x3:Nat)(x4:Int):DQ:=⟨x0,[(x1,(some x2))],none,.p (.MN x3 (.t x1) (some (.c (.int .i64 x4))) none none)⟩
@[go_sem]def z5(x0 x1 x2 x3 x4:Nat):SQ:=⟨some x0,some (x1,false),.p (.bin .neq x2 false false (.t x3) (.t x4))⟩
@[go_sem]def z6(x0 x1 x2 x3:Nat):SQ:=⟨none,none,.m (.lq x0 (.t x1) (.t x2) (.t x3))⟩
@[go_sem]def z7(x0 x1 x2 x3 x4 x5:Nat):SQ:=⟨some x0,none,.cv (.c (.fn (.func x1) [] [])) [(.t x2),(.t x3),(.t x4),(.t x5)]⟩
@[go_sem]def z8(x0 x1 x2:Nat):DQ:=⟨x0,[(x1,(some x2))],none,.p (.un .not (.t x1))⟩
@[go_sem]def z9(x0 x1 x2 x3 x4:Nat):SQ:=⟨some x0,some (x1,true),.p (.bin .lss x2 false false (.t x3) (.t x4))⟩
@[go_sem]def ja(x0 x1:Nat):SQ:=⟨some x0,none,.n (.new x1 [.aJ,.aJ])⟩
@[go_sem]def jb(x0 x1 x2 x3 x4 x5 x6 x7:Nat)(x8:Int):DQ:=⟨x0,[(x1,(some x2)),(x3,(some x4)),(x5,(some x6))],none,.cv (.c (.fn (.func x7) [] [])) [(.t x1),(.t x3),(.t x5),(.c (.int .u64 x8))]⟩
@[go_sem]def jc(x0 x1 x2 x3:Nat):SQ:=⟨some x0,none,.l ⟨x1,(.t x2),(.t x3),.aJ,true⟩⟩
@[go_sem]def jd(x0 x1 x2 x3 x4 x5 x6:Nat)(x7:Int):DQ:=⟨x0,[(x1,(some x2)),(x3,(some x4))],some (x5,true),.p (.bin .add x6 false true (.t x3) (.c (.int .i64 x7)))⟩
@[go_sem]def je(x0 x1 x2 x3:Nat):SQ:=⟨some x0,none,.p (.build [.ax,.ax] [(x1,x2,(.t x3))])⟩
@[go_sem]def jf(x0 x1:Nat)(x2 x3 x4 x5 x6 x7 x8 x9 Au Cr:Int):SQ:=⟨some x0,none,.n (.new x1 [.int .i64 x2,.int .i64 x3,.int .i64 x4,.int .i64 x5,.int .i64 x6,.int .i64 x7,.int .i64 x8,.int .i64 x9,.int .i64 Au,.int .i64 Cr])⟩
@[go_sem]def jg(x0 x1 x2 x3:Nat)(x4:Int):SQ:=⟨some x0,some (x1,true),.p (.bin .leq x2 false true (.t x3) (.c (.int .i64 x4)))⟩
@[go_sem]def jh(x0 x1 x2 x3:Nat):SQ:=⟨some x0,some (x1,true),.cv (.c (.fn (.func x2) [] [])) [(.t x3)]⟩
@[go_sem]def ji(x0 x1 x2 x3 x4 x5:Nat):SQ:=⟨some x0,none,.p (.Iv x1 x2 x3 (.t x4) (.t x5))⟩
@[go_sem]def jj(x0 x1 x2 x3:Nat):SQ:=⟨some x0,none,.p (.bin .sub x1 false false (.t x2) (.t x3))⟩
@[go_sem]def jk(x0 x1 x2 x3:Nat)(x4:Int):SQ:=⟨some x0,some (x1,false),.p (.bin .lss x2 false true (.t x3) (.c (.int .u8 x4)))⟩
@[go_sem]def jl(x0 x1 x2 x3:Nat)(x4:Int):SQ:=⟨some x0,some (x1,false),.p (.bin .eql x2 false true (.t x3) (.c (.int .u64 x4)))⟩
@[go_sem]def jm(x0 x1 x2 x3:Nat)(x4:Int):SQ:=⟨some x0,some (x1,false),.p (.bin .neq x2 false true (.t x3) (.c (.int .u8 x4)))⟩
@[go_sem]def jn(x0 x1 x2 x3:Nat)(x4:Int):SQ:=⟨some x0,some (x1,true),.p (.bin .neq x2 false true (.t x3) (.c (.int .i64 x4)))⟩
@[go_sem]def jo(x0:Nat)(x1 x2 x3 x4 x5 x6 x7 x8 x9 Au Cr Iu MM RF RG:Int):SQ:=⟨some x0,none,.p (.build [.int .i64 x1,.int .i64 x2,.int .u8 x3,.int .i64 x4,.int .u8 x5,.int .i64 x6,.ax,.int .i64 x7,.int .i64 x8,.int .i64 x9,.int .i64 Au,.int .i64 Cr,.int .i64 Iu,.int .i64 MM,.int .i64 RF,.int .i64 RG] [])⟩
@[go_sem]def jp(x0 x1:Nat)(x2:Int)(x3:Nat):SQ:=⟨some x0,none,.p (.bin .mul x1 true false (.c (.int .u64 x2)) (.t x3))⟩
@[go_sem]def jq(x0 x1 x2 x3 x4 x5:Nat)(x6:Int)(x7 x8:Nat):DQ:=⟨x0,[(x1,(some x2))],none,.n (.fl x3 x4 x5 [.int .i64 x6] [(x7,x8,(.t x1))])⟩
@[go_sem]def jr(x0 x1 x2:Nat)(x3 x4 x5:Int):DQ:=⟨x0,[(x1,(some x2))],none,.cv (.t x1) [(.c (.int .u8 x3)),(.c (.int .i64 x4)),(.c (.int .i64 x5))]⟩
@[go_sem]def js(x0 x1 x2 x3:Nat)(x4:Int):SQ:=⟨some x0,some (x1,true),.p (.bin .sub x2 false true (.t x3) (.c (.int .i64 x4)))⟩
@[go_sem]def jt(x0 x1 x2:Nat):SQ:=⟨some x0,none,.p (.GQ (.func x1) [] [(.t x2)])⟩
@[go_sem]def ju(x0 x1 x2:Nat)(x3:Int):SQ:=⟨some x0,none,.p (.bin .leq x1 false true (.t x2) (.c (.int .i64 x3)))⟩
@[go_sem]def jv(x0 x1 x2:Nat)(x3 x4 x5 x6:Int):SQ:=⟨some x0,none,.cv (.c (.fn (.func x1) [] [])) [(.t x2),(.c (.int .i64 x3)),(.c (.int .u8 x4)),(.c (.int .i64 x5)),(.c (.int .i64 x6))]⟩
@[go_sem]def jw(x0 x1 x2 x3:Nat)(x4:Int)(x5:Nat):SQ:=⟨some x0,none,.n (.yb x1 x2 x3 [.int .u64 x4,.bool false,.bool false] (.t x5) (.t x5))⟩
@[go_sem]def jx(x0:Nat)(x1:Int)(x2 x3 x4 x5 x6 x7 x8 x9 Au:Nat):SQ:=⟨some x0,none,.p (.build [.aJ,.int .i64 x1,.ax] [(x2,x3,(.t x4)),(x5,x6,(.t x7)),(x8,x9,(.t Au))])⟩
@[go_sem]def jy(x0:Nat)(x1 x2 x3 x4 x5:Int)(x6 x7 x8 x9 Au Cr Iu MM RF RG X6 x17 x18 x19 x20 x21 x22 x23:Nat):SQ:=⟨some x0,none,.p (.build [.int .i64 x1,.int .i64 x2,.int .u8 x3,.int .u64 x4,.int .u64 x5,.bool false] [(x6,x7,(.t x8)),(x9,Au,(.t Cr)),(Iu,MM,(.t RF)),(RG,X6,(.t x17)),(x18,x19,(.t x20)),(x21,x22,(.t x23))])⟩
@[go_sem]def jz(x0 x1 x2 x3 x4 x5 x6 x7 x8:Nat)(x9 Au Cr Iu:Int)(MM RF RG X6 x17 x18 x19 x20:Nat):DQ:=⟨x0,[(x1,(some x2)),(x3,(some x4)),(x5,(some x6)),(x7,(some x8))],none,.p (.build [.int .i64 x9,.int .i64 Au,.int .u8 Cr,.int .u64 Iu] [(MM,RF,(.t x1)),(RG,X6,(.t x3)),(x17,x18,(.t x5)),(x19,x20,(.t x7))])⟩
@[go_sem]def jA(x0 x1 x2 x3 x4 x5:Nat)(x6 x7 x8 x9:Int)(Au Cr:Nat):DQ:=⟨x0,[(x1,(some x2))],none,.n (.fl x3 x4 x5 [.int .i64 x6,.int .i64 x7,.int .u8 x8,.int .u64 x9] [(Au,Cr,(.t x1))])⟩
@[go_sem]def jB(x0 x1 x2 x3 x4 x5:Nat):DQ:=⟨x0,[(x1,(some x2)),(x3,(some x4))],some (x5,true),.r (.ld none (.t x3))⟩
@[go_sem]def jC(x0 x1 x2 x3:Nat)(x4:Int):SQ:=⟨some x0,some (x1,false),.p (.bin .sub x2 false true (.t x3) (.c (.int .i64 x4)))⟩
@[go_sem]def jD(x0 x1 x2 x3 x4 x5:Nat):DQ:=⟨x0,[(x1,(some x2)),(x3,(some x4))],none,.p (.bin .lss x5 false false (.t x1) (.t x3))⟩
@[go_sem]def jE(x0 x1 x2 x3:Nat):SQ:=⟨some x0,none,.l ⟨x1,(.t x2),(.t x3),.dQ,false⟩⟩
@[go_sem]def jF(x0 x1 x2 x3:Nat)(x4:Int):SQ:=⟨some x0,some (x1,true),.p (.bin .eql x2 false true (.t x3) (.c (.int .u64 x4)))⟩
@[go_sem]def jG(x0 x1 x2 x3:Nat)(x4:Int):SQ:=⟨some x0,some (x1,true),.p (.bin .leq x2 false true (.t x3) (.c (.int .u64 x4)))⟩
@[go_sem]def jH(x0 x1 x2:Nat)(x3:Int):SQ:=⟨some x0,none,.p (.MN x1 (.t x2) (some (.c (.int .i64 x3))) none none)⟩
@[go_sem]def jI(x0 x1 x2 x3:Nat)(x4:Int):DQ:=⟨x0,[(x1,(some x2))],none,.p (.mj x3 (.t x1) (.c (.int .i64 x4)))⟩
@[go_sem]def jJ(x0 x1 x2 x3 x4:Nat)(x5:Int):SQ:=⟨some x0,none,.cv (.c (.fn (.func x1) [] [])) [(.t x2),(.t x3),(.t x4),(.c (.int .i64 x5))]⟩
@[go_sem]def jK(x0 x1:Nat)(x2:Int):SQ:=⟨some x0,none,.n (.new x1 [.int .i64 x2,.bool false])⟩
@[go_sem]def jL(x0 x1 x2 x3 x4 x5:Nat):DQ:=⟨x0,[(x1,(some x2)),(x3,none)],some (x4,false),.r (.ld (some x5) (.t x3))⟩
@[go_sem]def jM(x0 x1 x2 x3 x4 x5:Nat):DQ:=⟨x0,[(x1,(some x2)),(x3,(some x4))],some (x5,false),.p (.un .not (.t x3))⟩
@[go_sem]def jN(x0 x1 x2 x3 x4:Nat):DQ:=⟨x0,[(x1,(some x2)),(x3,(some x4))],none,.p (.pick (.t x1) (.c (.bool true)) (.t x3))⟩
@[go_sem]def jO(x0 x1:Nat)(x2 x3 x4 x5 x6:Int):SQ:=⟨some x0,none,.n (.new x1 [.int .u64 x2,.int .u64 x3,.int .u64 x4,.int .u64 x5,.int .u64 x6,.ax])⟩
@[go_sem]def jP(x0:Nat)(x1 x2 x3 x4 x5:Int):SQ:=⟨some x0,none,.p (.build [.int .u64 x1,.int .u64 x2,.int .u64 x3,.int .u64 x4,.int .u64 x5,.ax] [])⟩
@[go_sem]def jQ(x0 x1:Nat):SQ:=⟨some x0,none,.cv (.c (.fn (.func x1) [] [])) []⟩
@[go_sem]def jR(x0 x1 x2 x3:Nat):SQ:=⟨some x0,some (x1,true),.r (.ld (some x2) (.t x3))⟩
@[go_sem]def jS(x0 x1 x2 x3 x4:Nat):SQ:=⟨some x0,some (x1,false),.p (.Qf x2 x3 (.t x4))⟩
@[go_sem]def jT(x0 x1 x2 x3:Nat):SQ:=⟨some x0,some (x1,false),.p (.bin .eql x2 false true (.t x3) (.c .dQ))⟩
@[go_sem]def jU(x0:Nat)(x1 x2 x3 x4:Int)(x5 x6:Nat)(x7:Int):SQ:=⟨some x0,none,.p (.build [.int .i64 x1,.bool false,.int .u64 x2,.int .u64 x3,.int .i64 x4] [(x5,x6,(.c (.int .i64 x7)))])⟩
@[go_sem]def jV(x0:Nat)(x1 x2 x3 x4:Int):SQ:=⟨some x0,none,.p (.build [.int .i64 x1,.bool false,.int .u64 x2,.int .u64 x3,.int .i64 x4] [])⟩
@[go_sem]def jW(x0 x1:Nat)(x2 x3:Int):SQ:=⟨some x0,none,.n (.new x1 [.int .u8 x2,.int .i64 x3,.ax])⟩
@[go_sem]def jX(x0:Nat)(x1 x2:Int)(x3 x4:Nat)(x5:Int):SQ:=⟨some x0,none,.p (.build [.int .u8 x1,.int .i64 x2,.ax] [(x3,x4,(.c (.int .u8 x5)))])⟩
@[go_sem]def jY(x0:Nat)(x1 x2:Int)(x3 x4:Nat)(x5:Int)(x6 x7 x8:Nat):SQ:=⟨some x0,none,.p (.build [.int .u8 x1,.int .i64 x2,.ax] [(x3,x4,(.c (.int .u8 x5))),(x6,x7,(.t x8))])⟩
@[go_sem]def jZ(x0 x1 x2 x3 x4 x5:Nat):DQ:=⟨x0,[(x1,(some x2)),(x3,(some x4))],some (x5,true),.p (.un .not (.t x3))⟩
@[go_sem]def j0(x0 x1 x2 x3 x4 x5:Nat):DQ:=⟨x0,[(x1,(some x2)),(x3,none)],some (x4,true),.r (.ld (some x5) (.t x3))⟩
@[go_sem]def j1(x0 x1 x2 x3 x4 x5 x6 x7 x8:Nat):DQ:=⟨x0,[(x1,(some x2)),(x3,(some x4)),(x5,(some x6))],some (x7,true),.p (.bin .eql x8 false false (.t x3) (.t x5))⟩
@[go_sem]def j2(x0 x1 x2 x3 x4 x5 x6:Nat):DQ:=⟨x0,[(x1,(some x2)),(x3,(some x4))],some (x5,true),.cv (.c (.fn (.func x6) [] [])) [(.t x3)]⟩
@[go_sem]def j3(x0 x1 x2 x3 x4 x5 x6 x7 x8:Nat):DQ:=⟨x0,[(x1,(some x2)),(x3,(some x4)),(x5,(some x6))],some (x7,true),.p (.bin .add x8 false false (.t x3) (.t x5))⟩
def X7:List TypeId:=[30,31,43,47,97,54,98,88,89,90,91,92,232,239,246,259,260,261,132,383,133,382,417,425,438,304,388,389,390,391,392,393,342,169,173,180,183,62]
def Qg(P:Program)(t:TypeId):Bool:=match P.underlying t with
 |some (.pointer _)=>true
 |_=>false
class PT(P:Program):Prop where
 ptr:X7.all (Qg P)=true
 X8:kF P 3=some none
 RH:∃e,P.underlying 22=some (.slice e)
 opA:∀(g:Nat->Option AO) (G:Nat),cH P g 8 238 (.agg [.dR 232 (.ptr G 0)]) "Open"=some (272,.ptr G 0)
 opB:∀(g:Nat->Option AO) (G:Nat),cH P g 8 245 (.agg [.dR 239 (.ptr G 0)]) "Open"=some (283,.ptr G 0)
 opC:∀(g:Nat->Option AO) (G:Nat),cH P g 8 252 (.agg [.dR 246 (.ptr G 0)]) "Open"=some (292,.ptr G 0)
 afy:∃e,P.underlying 93=some (.slice e)
 RI:∃a b c,P.underlying 141=some (.func a b c)
 enA:∀(g:Nat->Option AO) (G:Nat),cH P g 8 238 (.agg [.dR 232 (.ptr G 0)]) "Enter"=some (278,.agg [.dR 232 (.ptr G 0)])
 enB:∀(g:Nat->Option AO) (G:Nat),cH P g 8 245 (.agg [.dR 239 (.ptr G 0)]) "Enter"=some (287,.agg [.dR 239 (.ptr G 0)])
 enC:∀(g:Nat->Option AO) (G:Nat),cH P g 8 252 (.agg [.dR 246 (.ptr G 0)]) "Enter"=some (301,.agg [.dR 246 (.ptr G 0)])
 rwA:∀(g:Nat->Option AO) (G:Nat),cH P g 8 232 (.ptr G 0) "Enter"=some (270,.ptr G 0)
 rwB:∀(g:Nat->Option AO) (G:Nat),cH P g 8 239 (.ptr G 0) "Enter"=some (281,.ptr G 0)
 rwC:∀(g:Nat->Option AO) (G:Nat),cH P g 8 246 (.ptr G 0) "Enter"=some (290,.ptr G 0)
 stA:∀(g:Nat->Option AO) (X:Nat),cH P g 8 417 (.ptr X 0) "Step"=some (322,.ptr X 0)
 stB:∀(g:Nat->Option AO) (X:Nat),cH P g 8 425 (.ptr X 0) "Step"=some (327,.ptr X 0)
 stC:∀(g:Nat->Option AO) (X:Nat),cH P g 8 438 (.ptr X 0) "Step"=some (339,.ptr X 0)
 nxA:∀(g:Nat->Option AO) (X:Nat),cH P g 8 417 (.ptr X 0) "Next"=some (321,.ptr X 0)
 nxB:∀(g:Nat->Option AO) (X:Nat),cH P g 8 425 (.ptr X 0) "Next"=some (326,.ptr X 0)
 nxC:∀(g:Nat->Option AO) (X:Nat),cH P g 8 438 (.ptr X 0) "Next"=some (338,.ptr X 0)
 X9:∀(g:Nat->Option AO) (L:Nat),cH P g 8 133 (.ptr L 0) "Next"=some (111,.ptr L 0)
 rq:∀(g:Nat->Option AO) (L:Nat),cH P g 8 132 (.ptr L 0) "Next"=some (49,.ptr L 0)
class bQ(P:Program)(t:TypeId):Prop where
 ex:∃e,P.underlying t=some (.pointer e)
theorem PT.ty{P:Program}(p:PT P){t:TypeId}(h:X7.elem t=true):bQ P t:=⟨by
 have:=List.all_eq_true.1 p.ptr t (List.elem_iff.1 h);unfold Qg at this;split at this
 ·rename_i e he;exact⟨e,he⟩
 ·cases this⟩
@[go_sem] theorem atn(P:Program)(t:TypeId)[p:bQ P t](a o:Nat):bT P .eql t false true (.ptr a o) .aJ=some (.bool false):=by
 obtain⟨e,h⟩:=p.ex;unfold bT;simp only[];unfold bT.mO;simp only[h]
@[go_sem] theorem ao8(P:Program)(t:TypeId)[p:bQ P t]:bT P .eql t false true .aJ .aJ=some (.bool true):=by
 obtain⟨e,h⟩:=p.ex;unfold bT;simp only[];unfold bT.mO;simp only[h]
@[go_sem] theorem ato(P:Program)(t:TypeId)[p:bQ P t](a o:Nat):bT P .neq t false true (.ptr a o) .aJ=some (.bool true):=by
 obtain⟨e,h⟩:=p.ex;unfold bT;simp only[];unfold bT.mO;simp only[h];rfl
@[go_sem] theorem ao9(P:Program)(t:TypeId)[p:bQ P t]:bT P .neq t false true .aJ .aJ=some (.bool false):=by
 obtain⟨e,h⟩:=p.ex;unfold bT;simp only[];unfold bT.mO;simp only[h];rfl
theorem afA(P:Program)[p:PT P](a o l es:Nat)(c:Option Nat):bT P .eql 22 false true (.sl a o l es c) .ax=some (.bool false):=by
 obtain⟨e,h⟩:=p.RH;unfold bT;simp only[];unfold bT.mO;simp only[h]
theorem Ya(P:Program)[p:PT P]:bT P .eql 22 false true .ax .ax=some (.bool true):=by
 obtain⟨e,h⟩:=p.RH;unfold bT;simp only[];unfold bT.mO;simp only[h]
instance p36(P:Program)[p:PT P]:bQ P 30:=p.ty (by decide)
instance p39(P:Program)[p:PT P]:bQ P 31:=p.ty (by decide)
instance p64(P:Program)[p:PT P]:bQ P 43:=p.ty (by decide)
instance p67(P:Program)[p:PT P]:bQ P 47:=p.ty (by decide)
instance p68(P:Program)[p:PT P]:bQ P 97:=p.ty (by decide)
instance p69(P:Program)[p:PT P]:bQ P 54:=p.ty (by decide)
instance p70(P:Program)[p:PT P]:bQ P 98:=p.ty (by decide)
instance p91(P:Program)[p:PT P]:bQ P 88:=p.ty (by decide)
instance p97(P:Program)[p:PT P]:bQ P 89:=p.ty (by decide)
instance p98(P:Program)[p:PT P]:bQ P 90:=p.ty (by decide)
instance p99(P:Program)[p:PT P]:bQ P 91:=p.ty (by decide)
instance atp(P:Program)[p:PT P]:bQ P 92:=p.ty (by decide)
instance atq(P:Program)[p:PT P]:bQ P 232:=p.ty (by decide)
instance atr(P:Program)[p:PT P]:bQ P 239:=p.ty (by decide)
instance att(P:Program)[p:PT P]:bQ P 246:=p.ty (by decide)
instance atu(P:Program)[p:PT P]:bQ P 259:=p.ty (by decide)
instance atv(P:Program)[p:PT P]:bQ P 260:=p.ty (by decide)
instance atw(P:Program)[p:PT P]:bQ P 261:=p.ty (by decide)
instance atx(P:Program)[p:PT P]:bQ P 132:=p.ty (by decide)
instance apa(P:Program)[p:PT P]:bQ P 383:=p.ty (by decide)
instance aty(P:Program)[p:PT P]:bQ P 133:=p.ty (by decide)
instance atz(P:Program)[p:PT P]:bQ P 382:=p.ty (by decide)
instance apb(P:Program)[p:PT P]:bQ P 417:=p.ty (by decide)
instance apc(P:Program)[p:PT P]:bQ P 425:=p.ty (by decide)
instance apd(P:Program)[p:PT P]:bQ P 438:=p.ty (by decide)
instance atA(P:Program)[p:PT P]:bQ P 304:=p.ty (by decide)
instance ape(P:Program)[p:PT P]:bQ P 388:=p.ty (by decide)
instance apf(P:Program)[p:PT P]:bQ P 389:=p.ty (by decide)
instance apg(P:Program)[p:PT P]:bQ P 390:=p.ty (by decide)
instance aph(P:Program)[p:PT P]:bQ P 391:=p.ty (by decide)
instance api(P:Program)[p:PT P]:bQ P 392:=p.ty (by decide)
instance apj(P:Program)[p:PT P]:bQ P 393:=p.ty (by decide)
instance apk(P:Program)[p:PT P]:bQ P 342:=p.ty (by decide)
instance apl(P:Program)[p:PT P]:bQ P 169:=p.ty (by decide)
instance apm(P:Program)[p:PT P]:bQ P 173:=p.ty (by decide)
instance apn(P:Program)[p:PT P]:bQ P 180:=p.ty (by decide)
instance apo(P:Program)[p:PT P]:bQ P 183:=p.ty (by decide)
instance atB(P:Program)[p:PT P]:bQ P 62:=p.ty (by decide)
theorem Yb(P:Program)[p:PT P](f:Fn)(a b:List AV):bT P .eql 141 false true (.fn f a b) .dQ=some (.bool false):=by
 obtain⟨x,y,z,h⟩:=p.RI;unfold bT;simp only[];unfold bT.mO;simp only[h]
theorem Yc(P:Program)[p:PT P]:bT P .eql 141 false true .dQ .dQ=some (.bool true):=by
 obtain⟨x,y,z,h⟩:=p.RI;unfold bT;simp only[];unfold bT.mO;simp only[h]
end
end Go.Proofs.YtgkjlklfjbljeaaGreat.CQ
namespace Go.Proofs.YtgkjlklfjbljeaaGreat.CQ
open Go.Proofs.YtgkjlklfjbljeaaGreat.Eo
noncomputable section
variable(P:Program)[PT P]{call:ab}
@[go_sem]def Yd:CF:=⟨1,(Sq [b 2 0] (Qq (.block 0 (Sq [a 4 0,qe 5 3 4 0,a 3 5] (Kq 3 [b 2 2] (Sq [a 7 0,qW 8 3 7 65536,a 6 8] (Kq 6 [b 2 5] .skip))))) (Rq [b 2 0]))),[.tmp 2]⟩
@[go_sem]def Ye:CF:=⟨2,(Oq [a 4 0,j 5 4,d 6 0 5,a 7 1,M 8 174 6 7]),[]⟩
@[go_sem]def c35:CF:=⟨3,(Sq [b 6 0] (Qq (.block 0 (Sq [a 8 0,y 9 47 8,a 7 9] (Kq 7 [b 6 1] (Sq [a 11 1,D 12 3 11 0,a 13 12,r 14 13 1,qk 15 13 3 14 64,u 16 13 15,a 10 16] (Kq 10 [b 6 2] (Sq [a 18 2,D 19 3 18 0,a 20 19,r 21 20 2,r 22 20 0,qf 23 20 22,J 24 20 0 23,E 25 20 24,qu 26 20 25,qG 27 20 3 21 26,u 28 20 27,a 17 28] (Kq 17 [b 6 3] .skip))))))) (Rq [b 6 0]))),[.tmp 6]⟩
@[go_sem]def c42:CF:=⟨1,(Sq [qd 2 0] (Rq [a 3 0,j 4 3,d 5 0 4,q 6 93 5,a 2 6])),[.tmp 2]⟩
@[go_sem]def c90:CF:=⟨2,(Sq [qd 4 0,w 5] (Qq (Sq [a 6 0,a 7 1,q7 8 35 6 0 7,A 9 41 8 0] (Kq 9 [qd 4 0,w 5] .skip)) (Rq [a 10 0,j 11 10,d 12 0 11,i 13 12,a 14 1,G 15 1 13 14,q 16 42 15,a 4 16,qn 5]))),[.tmp 4,.tmp 5]⟩
def uR:CC:=(Sq [qc 22 3 21 20] (Qq (Cq 22 .skip (.exit 0)) (Qq (.block 1 (Sq [a 23 21,G 24 1 19 21,i 25 24,a 6 23,a 7 25] (Oq [a 26 5,j 27 26,d 28 0 27,i 29 28,a 30 6,G 31 1 29 30,a 32 7,M 33 122 31 32]))) (Oq [C 34 3 21 1,a 21 34]))))
@[go_sem]def c56:CF:=⟨1,(Sq [p 2,b 3 0] (Qq (Sq [a 8 0,N 9 8,q 10 121 9,a 4 10] (Sq [a 11 4,A 12 41 11 0] (Kq 12 [a 13 4,p 2,a 3 13] .skip))) (Sq [a 14 0,N 15 14,zr 16 115 1 8 0 15,je 17 0 1 16,z 18 119 17,a 5 18] (Qq (Sq [a 19 0,N 20 19,b 21 0] (.block 0 (.loop uR))) (Rq [a 35 5,a 2 35,b 3 0]))))),[.tmp 2,.tmp 3]⟩
theorem afB(P:Program){call:ab}{h:H}{n:Int}:WF P call Yd [.int .i64 n] h fun v h'=>v=.int .i64 (if n=0 then 2 else if 65536<n then 5 else 0)/\h'=h:=by
 by_cases h0:n=0
 ·simp only[go_sem,seval,h0]
 by_cases h1:65536<n
 ·simp only[go_sem,seval,h0,h1]
 simp only[go_sem,seval,h0,h1]
structure yc(h:H)(M W:Nat)(ws:List Int)(lg:AV):Prop where
 g:h.t.get M=some (.row (aa 0 [.sl W 0 ws.length 1 (some ws.length),lg] T.e) 2 119)
 o:aY lg=true
 w:h.t.get W=some (ag (ws.map (AV.int .u64)) 115)
 ne:M≠W
structure dK(h:H)(M W:Nat)(ws:List Int):Prop where
 mk::
 ex:∃lg,h.t.get M=some (.row (aa 0 [.sl W 0 ws.length 1 (some ws.length),lg] T.e) 2 119)/\aY lg=true
 w:h.t.get W=some (ag (ws.map (AV.int .u64)) 115)
 ne:M≠W
theorem yc.mem{h:H}{M W:Nat}{ws:List Int}{lg:AV}(m:yc h M W ws lg):dK h M W ws:=⟨⟨lg,m.g,m.o⟩,m.w,m.ne⟩
theorem w35{h:H}{M W:Nat}{ws:List Int}(hm:dK h M W ws){t a:Int}:WF P call c35 [.ptr M 0,.int .i64 t,.int .i64 a] h fun v h'=>v=.int .i64 (if t<0\/64<=t then 2 else if a<0\/(ws.length:Int)<=a then 3 else 0)/\h'=h:=by
 obtain⟨lg,g1,_⟩:=hm.ex
 by_cases h0:t<0
 ·simp only[go_sem,seval,h0,g1,true_or]
 by_cases h1:t<64
 case neg=>
  have e1:(64:Int)<=t:=by omega
  simp only[go_sem,seval,h0,h1,e1,g1,or_true]
 have e1:¬(64:Int)<=t:=by omega
 by_cases h2:a<0
 ·simp only[go_sem,seval,h0,h1,e1,h2,g1,true_or,or_self]
 by_cases h3:a<(ws.length:Int)
 ·have e3:¬(ws.length:Int)<=a:=by omega
  simp only[go_sem,seval,h0,h1,e1,h2,h3,e3,g1,or_self]
 ·have e3:(ws.length:Int)<=a:=by omega
  simp only[go_sem,seval,h0,h1,e1,h2,h3,e3,g1,or_true,or_self]
def F93(call:ab):Prop:=∀h W i (x:Int),(∃cs n e,h.t.get W=some (.row (aa 0 cs T.e) n e)/\cs[i]?=some (.int .u64 x))->call 93 [.ptr W i] h=some (.int .u64 x,h)
theorem w42(P:Program){call:ab}(afC:F93 call){h:H}{W i:Nat}{x:Int}(hx:∃cs n e,h.t.get W=some (.row (aa 0 cs T.e) n e)/\cs[i]?=some (.int .u64 x)):WF P call c42 [.ptr W i] h fun v h'=>v=.int .u64 x/\h'=h:=by
 have hc:=afC h W i x hx;simp only[go_sem,seval,hc]
theorem w90(P:Program){call:ab}(RJ:∀h M W ws (t a:Int),dK h M W ws->call 35 [.ptr M 0,.int .i64 t,.int .i64 a] h=some (.int .i64 (if t<0\/64<=t then 2 else if a<0\/(ws.length:Int)<=a then 3 else 0),h))
 (Iw:∀h W i (x:Int),(∃cs n e,h.t.get W=some (.row (aa 0 cs T.e) n e)/\cs[i]?=some (.int .u64 x))->call 42 [.ptr W i] h=some (.int .u64 x,h))
 {h:H} {M W:Nat} {ws:List Int} (hm:dK h M W ws) {a:Int}:WF P call c90 [.ptr M 0,.int .i64 a] h fun v h'=>v=(if h:0<=a/\a.toNat<ws.length then .aE [.int .u64 (ws[a.toNat]'h.2),.bool true]else .aE [.int .u64 0,.bool false])/\h'=h:=by
 obtain⟨lg,g1,_⟩:=hm.ex;have hc:=RJ h M W ws 0 a hm
 by_cases h0:0<=a/\a.toNat<ws.length
 ·rw[dif_pos h0];obtain⟨n,rfl⟩:∃n:Nat,a=n:=⟨a.toNat,by omega⟩;have hn:n<ws.length:=by have:=h0.2;omega
  have e0:¬((n:Int)<0\/(ws.length:Int)<=(n:Int)):=by omega
  rw[if_neg (by decide),if_neg e0]at hc;have hr:=Iw h W n ws[n] ⟨_,_,_,hm.w,by rw[List.getElem?_map,List.getElem?_eq_getElem hn];rfl⟩;have e1:(n:Int)<(ws.length:Int):=by omega
  simp only[go_sem,seval,hc,g1,e1,Nat.mul_one,hr]
 ·rw[dif_neg h0];have e0:a<0\/(ws.length:Int)<=a:=by omega
  rw[if_neg (by decide),if_pos e0]at hc;simp only[go_sem,seval,hc]
def Yf(call:ab):Prop:=∀h W i (x:Int) cs n e,h.t.get W=some (.row (aa 0 cs T.e) n e)->i<cs.length->i<n->call 174 [.ptr W i,.int .u64 x] h=some (.aE [],⟨h.next,h.t.set W (.row (aa 0 (cs.set i (.int .u64 x)) T.e) n e)⟩)
theorem afD(P:Program){call:ab}(afE:Yf call){h:H}{W i:Nat}{x:Int}{cs:List AV}{n:Nat}{e:TypeId}(hg:h.t.get W=some (.row (aa 0 cs T.e) n e))(hi:i<cs.length)(hn:i<n):WF P call Ye [.ptr W i,.int .u64 x] h fun v h'=>v=.aE []/\h'=⟨h.next,h.t.set W (.row (aa 0 (cs.set i (.int .u64 x)) T.e) n e)⟩:=by
 have hc:=afE h W i x cs n e hg hi hn;simp only[go_sem,seval,hc]
theorem fM(k:IntKind)(n:Nat):Cs (.int k (n:Int))=some n:=rfl
theorem dZ(x:AV)(n:Nat):rep [x] n=List.replicate n x:=by
 rw[List.eq_replicate_iff];refine⟨by simp[rep],fun b hb=>?_⟩;unfold rep at hb;obtain⟨i,_,rfl⟩:=List.mem_map.1 hb;simp[Nat.mod_one]
def Ct(ws:List Int)(i:Nat):List AV:=(ws.take i).map (AV.int .u64)++List.replicate (ws.length-i) (.int .u64 0)
theorem Ix(ws:List Int){i:Nat}(h:i<=ws.length):(Ct ws i).length=ws.length:=by
 unfold Ct;rw[List.length_append,List.length_map,List.length_take,List.length_replicate];omega
theorem Iy(ws:List Int){i:Nat}(h:i<ws.length):(Ct ws i).set i (.int .u64 ws[i])=Ct ws (i+1):=by
 unfold Ct;have e:ws.length-i=(ws.length-(i+1))+1:=by omega
 have el:((ws.take i).map (AV.int .u64)).length=i:=by rw[List.length_map,List.length_take];omega
 rw[e,List.replicate_succ,List.set_append_right _ _ (by omega),el,Nat.sub_self,List.set_cons_zero,List.take_add_one,List.getElem?_eq_getElem h,List.map_append,List.append_assoc];rfl
def I21(h0:H)(v:AV)(ws:List Int)(k:Nat)(tm:T AV)(h:H):Prop:=
 tm.get 19=some v/\tm.get 20=some (.int .i64 (ws.length:Int))/\tm.get 5=some (.ptr (h0.next+1) 0)/\h.next=h0.next+2/\(∀b,b<h0.next->h.t.get b=h0.t.get b)/\h.t.get (h0.next+1)=some (.row (aa 0 [.sl h0.next 0 ws.length 1 (some ws.length),.ax] T.e) 2 119)/\
    ∃i:Nat,i+k=ws.length/\tm.get 21=some (.int .i64 (i:Int))/\h.t.get h0.next=some (.row (aa 0 (Ct ws i) T.e) ws.length 115)
theorem RK(P:Program){call:ab}(h64:∀h W i (x:Int) cs n e,h.t.get W=some (.row (aa 0 cs T.e) n e)->i<cs.length->i<n->call 122 [.ptr W i,.int .u64 x] h=some (.aE [],⟨h.next,h.t.set W (.row (aa 0 (cs.set i (.int .u64 x)) T.e) n e)⟩))
 {h0:H} {v:AV} {ws:List Int} {e:TypeId} (Yg:Own 1 e h0 v ws.length (ws.map (AV.int .u64))) (GR:ws.length<=65536) (k:Nat) (tm:T AV) (h:H) (hI:I21 h0 v ws k tm h):
 WC P call uR (bM 0 (fun tm h=>∃j,j<k/\I21 h0 v ws j tm h) (fun tm h=>tm.get 5=some (.ptr (h0.next+1) 0)/\h.next=h0.next+2/\(∀b,b<h0.next->h.t.get b=h0.t.get b)/\yc h (h0.next+1) h0.next ws .ax) (fun _ _=>False)) tm h:=by
 obtain⟨t19,t20,t5,nx,old,gM,i,Cu,t21,gW⟩:=hI;have hv:Own 1 e h v ws.length (ws.map (AV.int .u64)):=Yg.aF (by omega) fun b hb=>old b (Yg.lt hb)
 cases k with
 |zero=>
  have e1:¬(i:Int)<(ws.length:Int):=by omega
  simp only[go_sem,seval,uR,t20,t21,e1];have hi:i=ws.length:=by omega
  refine⟨t5,nx,old,⟨gM,rfl,?_,by omega⟩⟩;rw[gW,hi];unfold Ct ag;rw[List.take_length,Nat.sub_self,List.replicate_zero,List.append_nil,List.length_map]
 |succ k=>
  have e1:(i:Int)<(ws.length:Int):=by omega
  have hi:i<ws.length:=by omega
  have hc:=h64 h h0.next i ws[i] _ _ _ gW (by rw[Ix ws (by omega)];exact hi) hi;rw[Iy ws hi]at hc;generalize uD:ws.map (AV.int .u64)=cs at hv Yg;generalize Mh:ws.length=n at hv Yg;have mD:cs[i]?=some (.int .u64 ws[i]):=by rw[←uD,List.getElem?_map,List.getElem?_eq_getElem hi];rfl
  cases hv with
  |nil=>omega
  |sl a len cs cap Cv hp iT ha hg=>
   rw[Mh]at e1 t20 gM gW hc hi Cu;have f1:fw .i64 ((i:Int)+1)=(i:Int)+1:=aS (by omega) (by omega);have e3:((i+1:Nat):Int)=(i:Int)+1:=rfl;have x1:¬h0.next+1=h0.next:=by omega
   simp only[go_sem,seval,uR,t19,t20,t21,t5,e1,Nat.mul_one,hg,mD,gM,hc,f1];refine⟨k,Nat.lt_succ_self k,by simp[go_sem,t19],by simp[go_sem,t20,Mh],by simp[go_sem,t5],nx,fun b hb=>?_,by simp[go_sem,x1,gM,Mh],i+1,by omega,by simp[go_sem,e3],by simp[go_sem,Mh]⟩;have e0:¬b=h0.next:=by omega
   simp only[go_sem,seval,e0];exact old b hb
structure Qh(ws:List Int)(h:H)(v:AV)(h':H):Prop where
 v:v=.aE [.ptr (h.next+1) 0,.int .i64 0]
 next:h'.next=h.next+2
 old:∀b,b<h.next->h'.t.get b=h.t.get b
 m:yc h' (h.next+1) h.next ws .ax
theorem w56(P:Program){call:ab}(h64:∀h W i (x:Int) cs n e,h.t.get W=some (.row (aa 0 cs T.e) n e)->i<cs.length->i<n->call 122 [.ptr W i,.int .u64 x] h=some (.aE [],⟨h.next,h.t.set W (.row (aa 0 (cs.set i (.int .u64 x)) T.e) n e)⟩))(h63:∀h (n:Int),call 121 [.int .i64 n] h=some (.int .i64 (if n=0 then 2 else if 65536<n then 5 else 0),h)){h:H}{v:AV}{ws:List Int}{e:TypeId}(hv:Own 1 e h v ws.length (ws.map (AV.int .u64)))(h0:0<ws.length)(h1:ws.length<=65536):WF P call c56 [v] h (Qh ws h):=by
 have pD:=hv.bR;have hc:=h63 h (ws.length:Int);rw[if_neg (by omega),if_neg (by omega)]at hc;have e1:8*ws.length<=281474976710656:=by omega
 have e2:ws.length<=281474976710656:=by omega
 simp only[go_sem,seval,pD,hc,fM,dZ,Nat.mul_one,Nat.le_refl,e1,e2,decide_true,Bool.and_self,cond_true];have mz:Ct ws 0=List.replicate ws.length (.int .u64 0):=rfl;refine aT (I21 h v ws) _ _ (fun k tm h' hI=>RK P h64 hv h1 k tm h' hI) (fun dC h2 hR=>?_) (fun _ _ hh=>hh.elim) ws.length _ _
  ⟨by simp[go_sem],by simp[go_sem],by simp[go_sem],rfl,fun b hb=>?_,by simp[go_sem],0,by omega,by simp[go_sem],by simp[go_sem,mz]⟩
 ·obtain⟨t5,nx,old,hm⟩:=hR;simp only[go_sem,seval,t5];exact⟨rfl,nx,old,hm⟩
 ·have x1:¬b=h.next:=by omega
  have x2:¬b=h.next+1:=by omega
  simp only[go_sem,seval,x1,x2]
@[go_sem]def c18:CF:=⟨1,(Sq [jf 2 60 0 0 0 0 0 0 0 0 0 0] (Qq (Sq [a 3 0,y 4 43 3] (Kq 4 [⟨some 5,none,.p (.build [aN,aN,aN,aN,aN,aN,aN,aN,aN,aN] [])⟩,s 10 2 5] .skip)) (Rq [a 6 0,j 7 6,d 8 16 7,S 9 10 8,s 10 2 9]))),[(.cell 2 (some 10))]⟩
def pE:CC:=(Sq [qc 19 3 18 17] (Qq (Cq 19 .skip (.exit 0)) (Qq (.block 1 (Sq [a 20 18,a 4 20] (Oq [a 21 3,a 22 4,a 23 0,j 24 23,d 25 0 24,i 26 25,a 27 4,G 28 1 26 27,q 29 42 28,G 30 1 21 22,s 1 30 29]))) (Oq [C 31 3 18 1,a 18 31]))))
@[go_sem]def c17:CF:=⟨1,(Sq [U 2] (Qq (Sq [a 5 0,y 6 47 5] (Kq 6 [U 2] .skip)) (Sq [a 7 0,j 8 7,d 9 0 8,i 10 9,N 11 10,zr 12 50 1 8 0 11,a 3 12] (Qq (Sq [a 13 0,j 14 13,d 15 0 14,i 16 15,N 17 16,b 18 0] (.block 0 (.loop pE))) (Rq [a 32 3,a 2 32]))))),[.tmp 2]⟩
structure ae(h h':H):Prop where
 next:h.next<=h'.next
 old:∀b,b<h.next->h'.t.get b=h.t.get b
theorem ae.refl(h:H):ae h h:=⟨Nat.le_refl _,fun _ _=>rfl⟩
theorem ae.trans{a b c:H}(h:ae a b)(k:ae b c):ae a c:=⟨Nat.le_trans h.next k.next,fun x hx=>(k.old x (Nat.lt_of_lt_of_le hx h.next)).trans (h.old x hx)⟩
theorem ae.new(h:H)(x:AO):ae h ⟨h.next+1,h.t.set h.next x⟩:=⟨Nat.le_add_right _ _,fun b hb=>by
 have e1:¬b=h.next:=by omega
 simp only[go_sem,seval,e1]⟩
theorem w18{h:H}{L:Nat}(hL:L<h.next){cells:T AV}{n:Nat}{e:TypeId}(gL:h.t.get L=some (.row cells n e)){p0 p1 p2 p3 p4 p5 p6 p7 p8 p9:Int}
 (hg:bh cells 16 10=some [.int .i64 p0,.int .i64 p1,.int .i64 p2,.int .i64 p3,.int .i64 p4,.int .i64 p5,.int .i64 p6,.int .i64 p7,.int .i64 p8,.int .i64 p9]):
 WF P call c18 [.ptr L 0] h fun v h'=>v=.agg [.int .i64 p0,.int .i64 p1,.int .i64 p2,.int .i64 p3,.int .i64 p4,.int .i64 p5,.int .i64 p6,.int .i64 p7,.int .i64 p8,.int .i64 p9]/\ae h h':=by
 have x1:¬L=h.next:=by omega
 simp only[go_sem,seval,x1,gL,hg];exact ae.new h _
def I68(h0:H)(M:Nat)(ws:List Int)(n:Nat)(k:Nat)(tm:T AV)(h:H):Prop:=
 tm.get 0=some (.ptr M 0)/\tm.get 3=some (.sl h0.next 0 n 1 (some n))/\tm.get 17=some (.int .i64 (n:Int))/\h.next=h0.next+1/\(∀b,b<h0.next->h.t.get b=h0.t.get b)/\
    ∃(i:Nat) (cs:List AV),i+k=n/\tm.get 18=some (.int .i64 (i:Int))/\h.t.get h0.next=some (.row (aa 0 cs T.e) n 50)/\cs.length=n/\∀j x,j<i->ws[j]?=some x->cs[j]?=some (AV.int .u64 x)
def R68(h0:H)(ws:List Int)(tm:T AV)(h:H):Prop:=tm.get 3=some (.sl h0.next 0 ws.length 1 (some ws.length))/\ae h0 h/\h0.next<h.next/\∃cs:List AV,h.t.get h0.next=some (.row (aa 0 cs T.e) ws.length 50)/\∀(j:Nat) (x:Int),ws[j]?=some x->cs[j]?=some (.int .u64 x)
theorem RM(P:Program){call:ab}(Iw:∀h W i (x:Int),(∃cs n e,h.t.get W=some (.row (aa 0 cs T.e) n e)/\cs[i]?=some (.int .u64 x))->call 42 [.ptr W i] h=some (.int .u64 x,h))
 {h0:H} {M W:Nat} {ws:List Int} (hm:dK h0 M W ws) (hM:M<h0.next) (hW:W<h0.next) (GR:ws.length<=65536) (k:Nat) (tm:T AV) (h:H) (hI:I68 h0 M ws ws.length k tm h):
 WC P call pE (bM 0 (fun tm h=>∃j,j<k/\I68 h0 M ws ws.length j tm h) (R68 h0 ws) (fun _ _=>False)) tm h:=by
 obtain⟨t0,t3,t17,nx,old,i,cs,Cu,t18,gO,iT,uD⟩:=hI;obtain⟨lg,gM,_⟩:=hm.ex;have MO:=(old M hM).trans gM;have gW1:=(old W hW).trans hm.w;cases k with
 |zero=>
  have e1:¬(i:Int)<(ws.length:Int):=by omega
  simp only[go_sem,seval,pE,t17,t18,e1];exact⟨t3,⟨by omega,old⟩,by omega,cs,gO,fun j x hx=>uD j x (by have:=(List.getElem?_eq_some_iff.1 hx).1;omega) hx⟩
 |succ k=>
  have e1:(i:Int)<(ws.length:Int):=by omega
  have hi:i<ws.length:=by omega
  have H8:i<cs.length:=by omega
  have hr:=Iw h W i ws[i] ⟨_,_,_,gW1,by rw[List.getElem?_map,List.getElem?_eq_getElem hi];rfl⟩;have f1:fw .i64 ((i:Int)+1)=(i:Int)+1:=aS (by omega) (by omega);have e3:((i+1:Nat):Int)=(i:Int)+1:=rfl;have hi3:i+1<=ws.length:=hi;simp only[go_sem,seval,pE,t0,t3,t17,t18,e1,Nat.mul_one,MO,hr,gO,iT,hi3,f1];refine⟨k,Nat.lt_succ_self k,by simp[go_sem,t0],by simp[go_sem,t3],by simp[go_sem,t17],nx,fun b hb=>?_,i+1,cs.set i (.int .u64 ws[i]),by omega,by simp[go_sem,e3],?_,by rw[List.length_set];exact iT,fun j x hj hx=>?_⟩
  ·have e0:¬b=h0.next:=by omega
   simp only[go_sem,seval,e0];exact old b hb
  ·simp only[go_sem,seval,H8]
  ·by_cases Qi:j=i
   ·subst Qi;rw[List.getElem?_eq_getElem hi]at hx;rw[List.getElem?_set_self H8,←Option.some.inj hx]
   ·rw[List.getElem?_set_ne (by omega)];exact uD j x (by omega) hx
def Iz(ws:List Int)(h:H)(v:AV)(h':H):Prop:=ae h h'/\∃O,v=.sl O 0 ws.length 1 (some ws.length)/\O<h'.next/\∃cs:List AV,h'.t.get O=some (.row (aa 0 cs T.e) ws.length 50)/\∀(j:Nat) (x:Int),ws[j]?=some x->cs[j]?=some (.int .u64 x)
theorem w17(Iw:∀h W i (x:Int),(∃cs n e,h.t.get W=some (.row (aa 0 cs T.e) n e)/\cs[i]?=some (.int .u64 x))->call 42 [.ptr W i] h=some (.int .u64 x,h))
 {h:H} {M W:Nat} {ws:List Int} (hm:dK h M W ws) (hM:M<h.next) (hW:W<h.next) (GR:ws.length<=65536):WF P call c17 [.ptr M 0] h (Iz ws h):=by
 obtain⟨lg,gM,_⟩:=id hm.ex;have e1:8*ws.length<=281474976710656:=by omega
 have e2:ws.length<=281474976710656:=by omega
 have x1:¬M=h.next:=by omega
 simp only[go_sem,seval,gM,fM,dZ,Nat.mul_one,Nat.le_refl,e1,e2,decide_true,Bool.and_self,cond_true,x1];refine aT (I68 h M ws ws.length) _ _ (fun k tm h' hI=>RM P Iw hm hM hW GR k tm h' hI) (fun dC h2 hR=>?_) (fun _ _ hh=>hh.elim) ws.length _ _
  ⟨by simp[go_sem],by simp[go_sem],by simp[go_sem],rfl,fun b hb=>?_,0,List.replicate ws.length (.int .u64 0),by omega,by simp[go_sem],by simp[go_sem],List.length_replicate,fun j x hj=>by omega⟩
 ·obtain⟨t3,st,lO,cs,g,uD⟩:=hR;simp only[go_sem,seval,t3];exact⟨st,_,rfl,lO,cs,g,uD⟩
 ·have e0:¬b=h.next:=by omega
  simp only[go_sem,seval,e0]
@[go_sem]def c34:CF:=⟨3,(Sq [w 6] (Rq [a 7 0,a 8 1,zF 9 3 7 8,a 10 9,K 11 10 0,K 12 10 2,zG 13 10 3 11 12,O 14 10 13,a 6 14])),[.tmp 6]⟩
def uS:CC:=(Sq [qc 9 3 8 7] (Qq (Cq 9 .skip (.exit 0)) (Qq (.block 1 (Sq [G 10 1 6 8,i 11 10,a 5 11] (Qq (Sq [a 12 5,a 13 3,zs 14 50 12 13] (Kq 14 [w 2] .skip)) (Oq [a 15 5,a 3 15])))) (Oq [C 16 3 8 1,a 8 16]))))
@[go_sem]def RN:CF:=⟨1,(Sq [w 2] (Sq [qd 3 0] (Qq (Sq [a 6 0,N 7 6,b 8 0] (.block 0 (.loop uS))) (Rq [qn 2])))),[.tmp 2]⟩
@[go_sem]def c96:CF:=⟨1,(Sq [z 1 24 0,b 2 0] (Sq [w 3] (Qq (Sq [d 4 0 1,i 5 4] (.block 0 (Sq [L 7 5 5 1,a 6 7] (Cq 6 (Oq [d 8 1 1,i 9 8,qe 10 3 9 0,a 11 10,qi 12 11 2 1,qh 13 11 12,qr 14 11 13,qO 15 11 3 14 0,O 16 11 15,a 3 16]) (Sq [L 18 5 5 2,a 17 18] (Cq 17 (Oq [d 19 1 1,i 20 19,qP 21 3 20 1,a 22 21,qi 23 22 1 1,qh 24 22 23,jg 25 22 3 24 64,O 26 22 25,a 27 26,qi 28 27 2 1,qh 29 27 28,qr 30 27 29,qO 31 27 3 30 0,O 32 27 31,a 3 32]) (Sq [L 34 5 5 3,a 33 34] (Cq 33 (Oq [d 35 1 1,i 36 35,qe 37 3 36 0,a 38 37,qi 39 38 2 1,qh 40 38 39,qr 41 38 40,⟨some 42,some (38,true),.p (.bin .geq 3 false true (.t 41) (.c (.int .i64 1)))⟩,O 43 38 42,a 44 43,qi 45 44 2 1,qh 46 44 45,qr 47 44 46,qy 48 44 3 47 64,O 49 44 48,a 50 49,qi 51 50 2 1,qh 52 50 51,jh 53 50 159 52,O 54 50 53,a 3 54]) .skip)))))))) (Qq (Sq [a 55 3,qa 56 55] (Kq 56 [b 2 2] .skip)) (Rq [b 2 0]))))),[.tmp 2]⟩
def aK:CC:=(Sq [D 19 3 18 6] (Qq (Cq 19 .skip (.exit 0)) (Qq (.block 1 (Sq [ji 20 6 3 1 17 18,a 6 20] (Qq (Sq [a 21 6,D 22 3 21 0,a 23 22,r 24 23 6,r 25 23 4,q9 26 23 3 24 25,u 27 23 26] (Kq 27 [b 2 2] .skip)) (Oq [a 28 4,a 29 6,jj 30 3 28 29,a 4 30])))) (Oq [C 31 3 18 1,a 18 31]))))
@[go_sem]def MP:CF:=⟨1,(Sq [z 1 27 0,b 2 0] (Sq [d 7 3 1,i 8 7,qe 9 3 8 0,a 3 9] (Qq (Sq [d 10 2 1,i 11 10,L 12 5 11 3] (Cq 12 (Oq [d 13 3 1,i 14 13,q8 15 34 14 1 16,a 3 15]) .skip)) (Sq [b 4 1024] (Qq (Sq [d 16 7 1,S 17 6 16,b 18 0] (.block 0 (.loop aK))) (Qq (Sq [d 32 0 1,i 33 32,q8 34 34 33 1 64,qa 35 34,a 36 35,J 37 36 1 1,E 38 36 37,zt 39 36 34 38 1 64,qz 40 36 39,u 41 36 40,a 42 41,J 43 42 2 1,E 44 42 43,jk 45 42 5 44 1,u 46 42 45,a 47 46,J 48 47 2 1,E 49 47 48,zH 50 47 5 49 3,u 51 47 50,a 52 51,r 53 52 3,qz 54 52 53,u 55 52 54,a 56 55,J 57 56 4 1,zI 58 56 3 57,qH 59 56 96 58,zu 60 56 41 59 0,u 61 56 60,a 62 61,J 63 62 13 1,E 64 62 63,zt 65 62 34 64 1 16,qz 66 62 65,u 67 62 66,a 68 67,J 69 68 14 1,E 70 68 69,zt 71 68 34 70 1 255,qz 72 68 71,u 73 68 72,a 74 73,J 75 74 15 1,E 76 74 75,zt 77 74 34 76 0 64,qz 78 74 77,u 79 74 78] (Kq 79 [b 2 2] .skip)) (Rq [b 2 0]))))))),[.tmp 2]⟩
def cm(agg:Option Nat)(es:Nat)(h:H)(v:AV)(xs:List AV):Prop:=
 (v=.ax/\xs=[])\/∃a o cap,v=.sl a o xs.length es cap/\xs.length<=281474976710656/\∀(i:Nat) x,xs[i]?=some x->uT h.t.get agg a (o+i*es)=some x
theorem cm.bR{agg:Option Nat}{es:Nat}{h:H}{v:AV}{xs:List AV}(r:cm agg es h v xs):bR v=some (.int .i64 (xs.length:Int)):=by
 rcases r with⟨rfl,rfl⟩|⟨a,o,cap,rfl,_⟩<;>rfl
theorem cm.le{agg:Option Nat}{es:Nat}{h:H}{v:AV}{xs:List AV}(r:cm agg es h v xs):xs.length<=281474976710656:=by
 rcases r with⟨rfl,rfl⟩|⟨a,o,cap,rfl,h1,_⟩
 ·exact Nat.zero_le _
 ·exact h1
theorem Own.GS{e:TypeId}{h:H}{v:AV}{len:Nat}{cs:List AV}(o:Own 1 e h v len cs)(hl:len<=281474976710656):cm none 1 h v cs:=by
 cases o with
 |nil=>exact .inl ⟨rfl,rfl⟩
 |sl a len cs cap hc h0 hlen ha hg=>
  refine .inr ⟨a,0,cap,by rw[hlen,Nat.mul_one],by omega,fun i x hi=>?_⟩;rw[ko,hg,RO,afK,fA,Nat.zero_add,Nat.mul_one];exact hi
theorem cm.aF{agg:Option Nat}{es:Nat}{h h':H}{v:AV}{xs:List AV}(r:cm agg es h v xs)(hk:∀b,own v=some b->h'.t.get b=h.t.get b):cm agg es h' v xs:=by
 rcases r with⟨rfl,rfl⟩|⟨a,o,cap,rfl,h1,h2⟩
 ·exact .inl ⟨rfl,rfl⟩
 ·exact .inr ⟨a,o,cap,rfl,h1,fun i x hi=>by have:=h2 i x hi;rw[ko]at this⊢;rw[hk a rfl];exact this⟩
theorem cm.one{agg:Option Nat}{es:Nat}{h:H}{v:AV}{xs:List AV}(r:cm agg es h v xs):aY v=true:=by
 rcases r with⟨rfl,rfl⟩|⟨a,o,cap,rfl,_⟩<;>rfl
structure aj where
 threads:Int
 aq:Int
 az:Int
 buckets:Int
 kind:Int
 n:Int
 aI:List Int
 t0:Int
 t1:Int
 t2:Int
 t3:Int
 t4:Int
 t5:Int
 bY:Int
 tries:Int
 batch:Int
def au(c:aj)(v:AV):List AV:=[.int .i64 c.threads,.int .i64 c.aq,.int .u8 c.az,.int .i64 c.buckets,.int .u8 c.kind,.int .i64 c.n,v,.int .i64 c.t0,.int .i64 c.t1,.int .i64 c.t2,.int .i64 c.t3,.int .i64 c.t4,.int .i64 c.t5,.int .i64 c.bY,.int .i64 c.tries,.int .i64 c.batch]
theorem w34(P:Program){call:ab}{h:H}(n a b:Int):WF P call c34 [.int .i64 n,.int .i64 a,.int .i64 b] h fun v h'=>v=.bool (decide (a<=n/\n<=b))/\h'=h:=by
 simp only[go_sem,seval]
 by_cases h1:n<a
 ·have h3:¬(a<=n/\n<=b):=by omega
  simp only[go_sem,seval,h1,h3]
 ·by_cases h2:b<n
  ·have h3:¬(a<=n/\n<=b):=by omega
   simp only[go_sem,seval,h1,h2,h3]
  ·have h3:a<=n/\n<=b:=by omega
   simp only[go_sem,seval,h1,h2,h3]
def fB:Int->List Int->Bool
 |_,[]=>true
 |a,x::l=>if x<=a then false else fB x l
def RP(h0:H)(v:AV)(l:List Int)(k:Nat)(tm:T AV)(h:H):Prop:=
 h=h0/\∃(i:Nat) (a:Int),i+k=l.length/\tm.get 6=some v/\tm.get 7=some (.int .i64 (l.length:Int))/\tm.get 8=some (.int .i64 (i:Int))/\tm.get 3=some (.int .u64 a)/\fB 0 l=fB a (l.drop i)
theorem MQ(P:Program){call:ab}{h0:H}{v:AV}{l:List Int}(hv:cm none 1 h0 v (l.map fun x:Int=>AV.int .u64 x))(k:Nat)(tm:T AV)(h:H)(hI:RP h0 v l k tm h):
 WC P call uS (bM 0 (fun tm h=>∃j,j<k/\RP h0 v l j tm h) (fun tm h=>h=h0/\fB 0 l=true) (fun tm h=>h=h0/\fB 0 l=false/\tm.get 2=some (.bool false))) tm h:=by
 obtain⟨rfl,i,a,Cu,t6,t7,t8,t3,Av⟩:=hI;have hle:=hv.le;rw[List.length_map]at hle;cases k with
 |zero=>
  have e1:¬(i:Int)<(l.length:Int):=by omega
  simp only[go_sem,seval,uS,t7,t8,e1];rw[Av,List.drop_eq_nil_of_le (by omega)];rfl
 |succ k=>
  have e1:(i:Int)<(l.length:Int):=by omega
  have hi:i<l.length:=by omega
  rcases hv with⟨_,hh⟩|⟨b,o,cap,rfl,_,ra⟩
  ·rw[List.map_eq_nil_iff]at hh;subst hh;simp at hi
  have ha:=ra i (.int .u64 l[i]) (by simp[hi]);rw[ko,Nat.mul_one]at ha;rw[List.length_map]at t6;rw[List.drop_eq_getElem_cons hi]at Av;have f1:fw .i64 ((i:Int)+1)=(i:Int)+1:=aS (by omega) (by omega);have e3:((i+1:Nat):Int)=(i:Int)+1:=rfl;simp only[go_sem,seval,uS,t6,t7,t8,t3,e1,Nat.mul_one,ha]
  by_cases hx:l[i]<=a
  ·have H9:¬a<l[i]:=by omega
   simp only[go_sem,seval,H9];rw[Av,fB,if_pos hx]
  ·have H9:a<l[i]:=by omega
   simp only[go_sem,seval,H9,t8,f1];refine⟨k,Nat.lt_succ_self k,rfl,i+1,l[i],by omega,?_,?_,?_,?_,by rw[Av,fB,if_neg hx]⟩
   ·simp only[go_sem,seval,t6,List.length_map]
   ·simp only[go_sem,seval,t7]
   ·simp only[go_sem,seval,e3]
   ·simp only[go_sem,seval]
theorem afL(P:Program){call:ab}{h:H}{v:AV}{l:List Int}(hv:cm none 1 h v (l.map fun x:Int=>AV.int .u64 x)):WF P call RN [v] h fun v' h'=>v'=.bool (fB 0 l)/\h'=h:=by
 have gr:=hv.bR;rw[List.length_map]at gr;simp only[go_sem,seval,RN,gr];refine aT (RP h v l) (fun tm h'=>h'=h/\fB 0 l=true) (fun tm h'=>h'=h/\fB 0 l=false/\tm.get 2=some (.bool false)) (fun k tm h' hI=>MQ P hv k tm h' hI) (fun dC h2 hR=>?_) (fun dC h2 hS=>?_) l.length _ _
  ⟨rfl,0,0,by omega,?_,?_,?_,?_,rfl⟩
 ·obtain⟨rfl,e⟩:=hR;simp only[go_sem,seval,e]
 ·obtain⟨rfl,e,t2⟩:=hS;simp only[go_sem,seval,t2,e]
 ·simp only[go_sem,seval]
 ·simp only[go_sem,seval]
 ·simp only[go_sem,seval]
 ·simp only[go_sem,seval]
def dg(p:Prop)(h:H)(v:AV)(h':H):Prop:=∃e:Int,v=.int .i64 e/\(e=0↔p)/\ae h h'
def cJ(k n:Int)(aI:List Int):Prop:=(k=1/\n=0/\aI=[])\/(k=2/\(1<=n/\n<=64)/\aI=[])\/(k=3/\n=0/\1<=aI.length/\aI.length<64/\fB 0 aI=true)
theorem w96(P:Program){call:ab}(afM:∀h v (l:List Int),cm none 1 h v (l.map fun x:Int=>AV.int .u64 x)->call 159 [v] h=some (.bool (fB 0 l),h))
 {h:H} {k n:Int} {v:AV} {l:List Int} (hv:cm none 1 h v (l.map fun x:Int=>AV.int .u64 x)) (dE:∀a,own v=some a->a<h.next):
 WF P call c96 [.agg [.int .u8 k,.int .i64 n,v]] h (dg (cJ k n l) h):=by
 have ov:=hv.one;have gr:=hv.bR;rw[List.length_map]at gr;have st:∀x,ae h ⟨h.next+1,h.t.set h.next x⟩:=fun x=>⟨Nat.le_add_right _ _,fun b hb=>by
  have e1:¬b=h.next:=by omega
  simp only[go_sem,seval,e1]⟩
 have Yh:=fun x=>afM ⟨h.next+1,h.t.set h.next x⟩ v l (hv.aF fun b hb=>(st x).old b (dE b hb))
 have ln:((l.length:Int)=0)=(l=[]):=by rw[←List.length_eq_zero_iff];apply propext;omega
 by_cases k1:k=1
 ·subst k1
  by_cases n0:n=0
  ·by_cases l0:l=[]
   ·simp only[go_sem,seval,ov,gr,n0,ln,l0];exact⟨0,rfl,by simp[cJ],st _⟩
   ·simp only[go_sem,seval,ov,gr,n0,ln,l0];exact⟨2,rfl,by simp[cJ,l0],st _⟩
  ·simp only[go_sem,seval,ov,gr,n0,ln];exact⟨2,rfl,by simp[cJ,n0],st _⟩
 by_cases k2:k=2
 ·subst k2
  by_cases n1:n<1
  ·simp only[go_sem,seval,ov,gr,n1,ln];exact⟨2,rfl,by simp[cJ];intro h1 h2 h3;omega,st _⟩
  ·by_cases n2:64<n
   ·simp only[go_sem,seval,ov,gr,n1,n2,ln];exact⟨2,rfl,by simp[cJ];intro h1 h2 h3;omega,st _⟩
   ·by_cases l0:l=[]
    ·simp only[go_sem,seval,ov,gr,n1,n2,ln,l0];exact⟨0,rfl,by simp[cJ];omega,st _⟩
    ·simp only[go_sem,seval,ov,gr,n1,n2,ln,l0];exact⟨2,rfl,by simp[cJ,l0],st _⟩
 by_cases k3:k=3
 ·subst k3
  by_cases n0:n=0
  ·by_cases l1:(l.length:Int)<1
   ·simp only[go_sem,seval,ov,gr,n0,l1];have hn:¬cJ 3 0 l:=by rintro (⟨h1,_⟩|⟨h1,_⟩|⟨_,_,h3,h4,_⟩)<;>omega
    exact⟨2,rfl,by simp[hn],st _⟩
   ·by_cases l2:(l.length:Int)<64
    ·simp only[go_sem,seval,ov,gr,n0,l1,l2];refine b8 (Yh _) ?_
     cases ha:fB 0 l with
     |true=>
      simp only[go_sem,seval];exact⟨0,rfl,by simp[cJ,ha];omega,st _⟩
     |false=>
      simp only[go_sem,seval];exact⟨2,rfl,by simp[cJ,ha],st _⟩
    ·simp only[go_sem,seval,ov,gr,n0,l1,l2];have hn:¬cJ 3 0 l:=by rintro (⟨h1,_⟩|⟨h1,_⟩|⟨_,_,h3,h4,_⟩)<;>omega
     exact⟨2,rfl,by simp[hn],st _⟩
  ·simp only[go_sem,seval,ov,gr,n0];exact⟨2,rfl,by simp[cJ,n0],st _⟩
 simp only[go_sem,seval,ov,gr,k1,k2,k3];exact⟨2,rfl,by simp[cJ,k1,k2,k3],st _⟩
def bZ:Int->List Int->Prop
 |_,[]=>True
 |a,t::l=>(0<=t/\t<=a)/\bZ (a-t) l
def fU(c:aj):Prop:=bZ 1024 [c.t0,c.t1,c.t2,c.t3,c.t4,c.t5]/\(1<=c.threads/\c.threads<=64)/\(1<=c.aq/\c.aq<=64)/\1<=c.az/\c.az<=3/\(c.az=3->1<=c.buckets/\c.buckets<=16)/\(c.az≠3->c.buckets=0)/\cJ c.kind c.n c.aI/\(1<=c.bY/\c.bY<=16)/\(1<=c.tries/\c.tries<=255)/\0<=c.batch/\c.batch<=64
theorem dA:fw .i64 1=1:=rfl
theorem dN:fw .i64 2=2:=rfl
theorem dP:fw .i64 3=3:=rfl
theorem ec:fw .i64 4=4:=rfl
theorem ed:fw .i64 5=5:=rfl
theorem eg:fw .i64 6=6:=rfl
theorem bo(P:Program)[p:PT P](l:List AV)(i:Nat):iH P 3 l i=l[i]?:=by unfold iH;rw[p.X8]
set_option maxRecDepth 10000 in
theorem RQ(tQ:∀h n a b,call 34 [.int .i64 n,.int .i64 a,.int .i64 b] h=some (.bool (decide (a<=n/\n<=b)),h))
 (Qj:∀h k n v (l:List Int),cm none 1 h v (l.map fun x:Int=>AV.int .u64 x)->(∀a,own v=some a->a<h.next)->∃v' h',call 96 [.agg [.int .u8 k,.int .i64 n,v]] h=some (v',h')/\dg (cJ k n l) h v' h')
 {h:H} {c:aj} {v:AV} (hv:cm none 1 h v (c.aI.map fun x:Int=>AV.int .u64 x)) (dE:∀a,own v=some a->a<h.next) (hg:¬c.az=3):
 WF P call MP [.agg (au c v)] h (dg (fU c) h):=by
 have ov:=hv.one;have st:∀x,ae h ⟨h.next+1,h.t.set h.next x⟩:=fun x=>⟨Nat.le_add_right _ _,fun b hb=>by
  have e1:¬b=h.next:=by omega
  simp only[go_sem,seval,e1]⟩
 have bad:∀(p:Prop) x,¬p->dg p h (.int .i64 2) ⟨h.next+1,h.t.set h.next x⟩:=fun p x hp=>⟨2,rfl,by simp[hp],st x⟩
 simp only[go_sem,seval,ov,au,hg,tQ];refine kq 7 ?_
 simp only[go_sem,seval,aK,bo]
 by_cases a0:c.t0<0
 case pos=>
  simp only[go_sem,seval,aK,bo,dA,dN,dP,ec,ed,eg,a0];exact bad _ _ (by rintro ⟨ht,_⟩;simp only[bZ]at ht;omega)
 by_cases b0:1024<c.t0
 case pos=>
  simp only[go_sem,seval,aK,bo,dA,dN,dP,ec,ed,eg,a0,b0];exact bad _ _ (by rintro ⟨ht,_⟩;simp only[bZ]at ht;omega)
 have f0:fw .i64 (1024-c.t0)=1024-c.t0:=aS (by omega) (by omega);simp only[go_sem,seval,aK,bo,dA,dN,dP,ec,ed,eg,a0,b0,f0]
 by_cases a1:c.t1<0
 case pos=>
  simp only[go_sem,seval,aK,bo,dA,dN,dP,ec,ed,eg,a0,b0,f0,a1];exact bad _ _ (by rintro ⟨ht,_⟩;simp only[bZ]at ht;omega)
 by_cases b1:1024-c.t0<c.t1
 case pos=>
  simp only[go_sem,seval,aK,bo,dA,dN,dP,ec,ed,eg,a0,b0,f0,a1,b1];exact bad _ _ (by rintro ⟨ht,_⟩;simp only[bZ]at ht;omega)
 have f1:fw .i64 (1024-c.t0-c.t1)=1024-c.t0-c.t1:=aS (by omega) (by omega);simp only[go_sem,seval,aK,bo,dA,dN,dP,ec,ed,eg,a0,b0,f0,a1,b1,f1]
 by_cases a2:c.t2<0
 case pos=>
  simp only[go_sem,seval,aK,bo,dA,dN,dP,ec,ed,eg,a0,b0,f0,a1,b1,f1,a2];exact bad _ _ (by rintro ⟨ht,_⟩;simp only[bZ]at ht;omega)
 by_cases b2:1024-c.t0-c.t1<c.t2
 case pos=>
  simp only[go_sem,seval,aK,bo,dA,dN,dP,ec,ed,eg,a0,b0,f0,a1,b1,f1,a2,b2];exact bad _ _ (by rintro ⟨ht,_⟩;simp only[bZ]at ht;omega)
 have f2:fw .i64 (1024-c.t0-c.t1-c.t2)=1024-c.t0-c.t1-c.t2:=aS (by omega) (by omega);simp only[go_sem,seval,aK,bo,dA,dN,dP,ec,ed,eg,a0,b0,f0,a1,b1,f1,a2,b2,f2]
 by_cases a3:c.t3<0
 case pos=>
  simp only[go_sem,seval,aK,bo,dA,dN,dP,ec,ed,eg,a0,b0,f0,a1,b1,f1,a2,b2,f2,a3];exact bad _ _ (by rintro ⟨ht,_⟩;simp only[bZ]at ht;omega)
 by_cases b3:1024-c.t0-c.t1-c.t2<c.t3
 case pos=>
  simp only[go_sem,seval,aK,bo,dA,dN,dP,ec,ed,eg,a0,b0,f0,a1,b1,f1,a2,b2,f2,a3,b3];exact bad _ _ (by rintro ⟨ht,_⟩;simp only[bZ]at ht;omega)
 have f3:fw .i64 (1024-c.t0-c.t1-c.t2-c.t3)=1024-c.t0-c.t1-c.t2-c.t3:=aS (by omega) (by omega);simp only[go_sem,seval,aK,bo,dA,dN,dP,ec,ed,eg,a0,b0,f0,a1,b1,f1,a2,b2,f2,a3,b3,f3]
 by_cases a4:c.t4<0
 case pos=>
  simp only[go_sem,seval,aK,bo,dA,dN,dP,ec,ed,eg,a0,b0,f0,a1,b1,f1,a2,b2,f2,a3,b3,f3,a4];exact bad _ _ (by rintro ⟨ht,_⟩;simp only[bZ]at ht;omega)
 by_cases b4:1024-c.t0-c.t1-c.t2-c.t3<c.t4
 case pos=>
  simp only[go_sem,seval,aK,bo,dA,dN,dP,ec,ed,eg,a0,b0,f0,a1,b1,f1,a2,b2,f2,a3,b3,f3,a4,b4];exact bad _ _ (by rintro ⟨ht,_⟩;simp only[bZ]at ht;omega)
 have f4:fw .i64 (1024-c.t0-c.t1-c.t2-c.t3-c.t4)=1024-c.t0-c.t1-c.t2-c.t3-c.t4:=aS (by omega) (by omega);simp only[go_sem,seval,aK,bo,dA,dN,dP,ec,ed,eg,a0,b0,f0,a1,b1,f1,a2,b2,f2,a3,b3,f3,a4,b4,f4]
 by_cases a5:c.t5<0
 case pos=>
  simp only[go_sem,seval,aK,bo,dA,dN,dP,ec,ed,eg,a0,b0,f0,a1,b1,f1,a2,b2,f2,a3,b3,f3,a4,b4,f4,a5];exact bad _ _ (by rintro ⟨ht,_⟩;simp only[bZ]at ht;omega)
 by_cases b5:1024-c.t0-c.t1-c.t2-c.t3-c.t4<c.t5
 case pos=>
  simp only[go_sem,seval,aK,bo,dA,dN,dP,ec,ed,eg,a0,b0,f0,a1,b1,f1,a2,b2,f2,a3,b3,f3,a4,b4,f4,a5,b5];exact bad _ _ (by rintro ⟨ht,_⟩;simp only[bZ]at ht;omega)
 have f5:fw .i64 (1024-c.t0-c.t1-c.t2-c.t3-c.t4-c.t5)=1024-c.t0-c.t1-c.t2-c.t3-c.t4-c.t5:=aS (by omega) (by omega);simp only[go_sem,seval,aK,bo,dA,dN,dP,ec,ed,eg,a0,b0,f0,a1,b1,f1,a2,b2,f2,a3,b3,f3,a4,b4,f4,a5,b5,f5];have ht:bZ 1024 [c.t0,c.t1,c.t2,c.t3,c.t4,c.t5]:=by simp only[bZ,and_true];omega
 by_cases c1:1<=c.threads/\c.threads<=64
 case neg=>
  simp only[go_sem,seval,tQ,c1];exact bad _ _ (by rintro ⟨_,q1,q2,q3,q4,q5,q6,q7,q8,q9,iI⟩;omega)
 by_cases c2:1<=c.aq/\c.aq<=64
 case neg=>
  simp only[go_sem,seval,tQ,c1,c2];exact bad _ _ (by rintro ⟨_,q1,q2,q3,q4,q5,q6,q7,q8,q9,iI⟩;omega)
 by_cases mE:c.az<1
 case pos=>
  simp only[go_sem,seval,tQ,c1,c2,mE];exact bad _ _ (by rintro ⟨_,q1,q2,q3,q4,q5,q6,q7,q8,q9,iI⟩;omega)
 by_cases iV:3<c.az
 case pos=>
  simp only[go_sem,seval,tQ,c1,c2,mE,iV];exact bad _ _ (by rintro ⟨_,q1,q2,q3,q4,q5,q6,q7,q8,q9,iI⟩;omega)
 by_cases dp:c.buckets=0
 case neg=>
  simp only[go_sem,seval,tQ,c1,c2,mE,iV,dp];exact bad _ _ (by rintro ⟨_,q1,q2,q3,q4,q5,q6,q7,q8,q9,iI⟩;exact dp (q6 hg))
 simp only[go_sem,seval,tQ,c1,c2,mE,iV,dp];refine af (Qj _ c.kind c.n v c.aI (hv.aF fun b hb=>(st _).old b (dE b hb)) (fun a ha=>Nat.lt_of_lt_of_le (dE a ha) (st _).next)) fun v1 h1 p1=>?_
 obtain⟨e,rfl,he,bC⟩:=p1;have IA:=(st _).trans bC;have g0:=bC.old h.next (by show h.next<h.next+1;omega);simp only[go_sem,seval]at g0;have cQ:∀p:Prop,¬p->dg p h (.int .i64 2) h1:=fun p hp=>⟨2,rfl,by simp[hp],IA⟩
 by_cases d0:e=0
 case neg=>
  simp only[go_sem,seval,d0,g0,tQ];exact cQ _ (by rintro ⟨_,q1,q2,q3,q4,q5,q6,q7,q8,q9,iI⟩;exact d0 (he.2 q7))
 have dd:=he.1 d0
 by_cases d1:1<=c.bY/\c.bY<=16
 case neg=>
  simp only[go_sem,seval,g0,tQ,d0,d1];exact cQ _ (by rintro ⟨_,q1,q2,q3,q4,q5,q6,q7,q8,q9,iI,yE⟩;omega)
 by_cases d2:1<=c.tries/\c.tries<=255
 case neg=>
  simp only[go_sem,seval,g0,tQ,d0,d1,d2];exact cQ _ (by rintro ⟨_,q1,q2,q3,q4,q5,q6,q7,q8,q9,iI,yE⟩;omega)
 by_cases d3:0<=c.batch/\c.batch<=64
 case neg=>
  simp only[go_sem,seval,g0,tQ,d0,d1,d2,d3];exact cQ _ (by rintro ⟨_,q1,q2,q3,q4,q5,q6,q7,q8,q9,iI,yE⟩;omega)
 simp only[go_sem,seval,g0,tQ,d0,d1,d2,d3];exact⟨0,rfl,by simp only[true_iff];exact⟨ht,c1,c2,by omega,by omega,by intro q;exact absurd q hg,by intro _;exact dp,dd,d1,d2,d3.1,d3.2⟩,IA⟩
set_option maxRecDepth 10000 in
theorem RR(tQ:∀h n a b,call 34 [.int .i64 n,.int .i64 a,.int .i64 b] h=some (.bool (decide (a<=n/\n<=b)),h))
 (Qj:∀h k n v (l:List Int),cm none 1 h v (l.map fun x:Int=>AV.int .u64 x)->(∀a,own v=some a->a<h.next)->∃v' h',call 96 [.agg [.int .u8 k,.int .i64 n,v]] h=some (v',h')/\dg (cJ k n l) h v' h')
 {h:H} {c:aj} {v:AV} (hv:cm none 1 h v (c.aI.map fun x:Int=>AV.int .u64 x)) (dE:∀a,own v=some a->a<h.next) (hg:c.az=3):
 WF P call MP [.agg (au c v)] h (dg (fU c) h):=by
 have ov:=hv.one;have st:∀x,ae h ⟨h.next+1,h.t.set h.next x⟩:=fun x=>⟨Nat.le_add_right _ _,fun b hb=>by
  have e1:¬b=h.next:=by omega
  simp only[go_sem,seval,e1]⟩
 have bad:∀(p:Prop) x,¬p->dg p h (.int .i64 2) ⟨h.next+1,h.t.set h.next x⟩:=fun p x hp=>⟨2,rfl,by simp[hp],st x⟩
 simp only[go_sem,seval,ov,au,hg,tQ];refine kq 7 ?_
 simp only[go_sem,seval,aK,bo]
 by_cases a0:c.t0<0
 case pos=>
  simp only[go_sem,seval,aK,bo,dA,dN,dP,ec,ed,eg,a0];exact bad _ _ (by rintro ⟨ht,_⟩;simp only[bZ]at ht;omega)
 by_cases b0:1024<c.t0
 case pos=>
  simp only[go_sem,seval,aK,bo,dA,dN,dP,ec,ed,eg,a0,b0];exact bad _ _ (by rintro ⟨ht,_⟩;simp only[bZ]at ht;omega)
 have f0:fw .i64 (1024-c.t0)=1024-c.t0:=aS (by omega) (by omega);simp only[go_sem,seval,aK,bo,dA,dN,dP,ec,ed,eg,a0,b0,f0]
 by_cases a1:c.t1<0
 case pos=>
  simp only[go_sem,seval,aK,bo,dA,dN,dP,ec,ed,eg,a0,b0,f0,a1];exact bad _ _ (by rintro ⟨ht,_⟩;simp only[bZ]at ht;omega)
 by_cases b1:1024-c.t0<c.t1
 case pos=>
  simp only[go_sem,seval,aK,bo,dA,dN,dP,ec,ed,eg,a0,b0,f0,a1,b1];exact bad _ _ (by rintro ⟨ht,_⟩;simp only[bZ]at ht;omega)
 have f1:fw .i64 (1024-c.t0-c.t1)=1024-c.t0-c.t1:=aS (by omega) (by omega);simp only[go_sem,seval,aK,bo,dA,dN,dP,ec,ed,eg,a0,b0,f0,a1,b1,f1]
 by_cases a2:c.t2<0
 case pos=>
  simp only[go_sem,seval,aK,bo,dA,dN,dP,ec,ed,eg,a0,b0,f0,a1,b1,f1,a2];exact bad _ _ (by rintro ⟨ht,_⟩;simp only[bZ]at ht;omega)
 by_cases b2:1024-c.t0-c.t1<c.t2
 case pos=>
  simp only[go_sem,seval,aK,bo,dA,dN,dP,ec,ed,eg,a0,b0,f0,a1,b1,f1,a2,b2];exact bad _ _ (by rintro ⟨ht,_⟩;simp only[bZ]at ht;omega)
 have f2:fw .i64 (1024-c.t0-c.t1-c.t2)=1024-c.t0-c.t1-c.t2:=aS (by omega) (by omega);simp only[go_sem,seval,aK,bo,dA,dN,dP,ec,ed,eg,a0,b0,f0,a1,b1,f1,a2,b2,f2]
 by_cases a3:c.t3<0
 case pos=>
  simp only[go_sem,seval,aK,bo,dA,dN,dP,ec,ed,eg,a0,b0,f0,a1,b1,f1,a2,b2,f2,a3];exact bad _ _ (by rintro ⟨ht,_⟩;simp only[bZ]at ht;omega)
 by_cases b3:1024-c.t0-c.t1-c.t2<c.t3
 case pos=>
  simp only[go_sem,seval,aK,bo,dA,dN,dP,ec,ed,eg,a0,b0,f0,a1,b1,f1,a2,b2,f2,a3,b3];exact bad _ _ (by rintro ⟨ht,_⟩;simp only[bZ]at ht;omega)
 have f3:fw .i64 (1024-c.t0-c.t1-c.t2-c.t3)=1024-c.t0-c.t1-c.t2-c.t3:=aS (by omega) (by omega);simp only[go_sem,seval,aK,bo,dA,dN,dP,ec,ed,eg,a0,b0,f0,a1,b1,f1,a2,b2,f2,a3,b3,f3]
 by_cases a4:c.t4<0
 case pos=>
  simp only[go_sem,seval,aK,bo,dA,dN,dP,ec,ed,eg,a0,b0,f0,a1,b1,f1,a2,b2,f2,a3,b3,f3,a4];exact bad _ _ (by rintro ⟨ht,_⟩;simp only[bZ]at ht;omega)
 by_cases b4:1024-c.t0-c.t1-c.t2-c.t3<c.t4
 case pos=>
  simp only[go_sem,seval,aK,bo,dA,dN,dP,ec,ed,eg,a0,b0,f0,a1,b1,f1,a2,b2,f2,a3,b3,f3,a4,b4];exact bad _ _ (by rintro ⟨ht,_⟩;simp only[bZ]at ht;omega)
 have f4:fw .i64 (1024-c.t0-c.t1-c.t2-c.t3-c.t4)=1024-c.t0-c.t1-c.t2-c.t3-c.t4:=aS (by omega) (by omega);simp only[go_sem,seval,aK,bo,dA,dN,dP,ec,ed,eg,a0,b0,f0,a1,b1,f1,a2,b2,f2,a3,b3,f3,a4,b4,f4]
 by_cases a5:c.t5<0
 case pos=>
  simp only[go_sem,seval,aK,bo,dA,dN,dP,ec,ed,eg,a0,b0,f0,a1,b1,f1,a2,b2,f2,a3,b3,f3,a4,b4,f4,a5];exact bad _ _ (by rintro ⟨ht,_⟩;simp only[bZ]at ht;omega)
 by_cases b5:1024-c.t0-c.t1-c.t2-c.t3-c.t4<c.t5
 case pos=>
  simp only[go_sem,seval,aK,bo,dA,dN,dP,ec,ed,eg,a0,b0,f0,a1,b1,f1,a2,b2,f2,a3,b3,f3,a4,b4,f4,a5,b5];exact bad _ _ (by rintro ⟨ht,_⟩;simp only[bZ]at ht;omega)
 have f5:fw .i64 (1024-c.t0-c.t1-c.t2-c.t3-c.t4-c.t5)=1024-c.t0-c.t1-c.t2-c.t3-c.t4-c.t5:=aS (by omega) (by omega);simp only[go_sem,seval,aK,bo,dA,dN,dP,ec,ed,eg,a0,b0,f0,a1,b1,f1,a2,b2,f2,a3,b3,f3,a4,b4,f4,a5,b5,f5];have ht:bZ 1024 [c.t0,c.t1,c.t2,c.t3,c.t4,c.t5]:=by simp only[bZ,and_true];omega
 by_cases c1:1<=c.threads/\c.threads<=64
 case neg=>
  simp only[go_sem,seval,tQ,c1];exact bad _ _ (by rintro ⟨_,q1,q2,q3,q4,q5,q6,q7,q8,q9,iI⟩;omega)
 by_cases c2:1<=c.aq/\c.aq<=64
 case neg=>
  simp only[go_sem,seval,tQ,c1,c2];exact bad _ _ (by rintro ⟨_,q1,q2,q3,q4,q5,q6,q7,q8,q9,iI⟩;omega)
 have mE:¬c.az<1:=by omega
 have iV:¬3<c.az:=by omega
 by_cases dp:1<=c.buckets/\c.buckets<=16
 case neg=>
  simp only[go_sem,seval,tQ,c1,c2,mE,iV,hg,dp];exact bad _ _ (by rintro ⟨_,q1,q2,q3,q4,q5,q6,q7,q8,q9,iI⟩;exact dp (q5 hg))
 simp only[go_sem,seval,tQ,c1,c2,mE,iV,hg,dp];refine af (Qj _ c.kind c.n v c.aI (hv.aF fun b hb=>(st _).old b (dE b hb)) (fun a ha=>Nat.lt_of_lt_of_le (dE a ha) (st _).next)) fun v1 h1 p1=>?_
 obtain⟨e,rfl,he,bC⟩:=p1;have IA:=(st _).trans bC;have g0:=bC.old h.next (by show h.next<h.next+1;omega);simp only[go_sem,seval]at g0;have cQ:∀p:Prop,¬p->dg p h (.int .i64 2) h1:=fun p hp=>⟨2,rfl,by simp[hp],IA⟩
 by_cases d0:e=0
 case neg=>
  simp only[go_sem,seval,d0,g0,tQ];exact cQ _ (by rintro ⟨_,q1,q2,q3,q4,q5,q6,q7,q8,q9,iI⟩;exact d0 (he.2 q7))
 have dd:=he.1 d0
 by_cases d1:1<=c.bY/\c.bY<=16
 case neg=>
  simp only[go_sem,seval,g0,tQ,d0,d1];exact cQ _ (by rintro ⟨_,q1,q2,q3,q4,q5,q6,q7,q8,q9,iI,yE⟩;omega)
 by_cases d2:1<=c.tries/\c.tries<=255
 case neg=>
  simp only[go_sem,seval,g0,tQ,d0,d1,d2];exact cQ _ (by rintro ⟨_,q1,q2,q3,q4,q5,q6,q7,q8,q9,iI,yE⟩;omega)
 by_cases d3:0<=c.batch/\c.batch<=64
 case neg=>
  simp only[go_sem,seval,g0,tQ,d0,d1,d2,d3];exact cQ _ (by rintro ⟨_,q1,q2,q3,q4,q5,q6,q7,q8,q9,iI,yE⟩;omega)
 simp only[go_sem,seval,g0,tQ,d0,d1,d2,d3];exact⟨0,rfl,by simp only[true_iff];exact⟨ht,c1,c2,by omega,by omega,by intro _;exact dp,by intro q;exact absurd hg q,dd,d1,d2,d3.1,d3.2⟩,IA⟩
theorem afN(tQ:∀h n a b,call 34 [.int .i64 n,.int .i64 a,.int .i64 b] h=some (.bool (decide (a<=n/\n<=b)),h))
 (Qj:∀h k n v (l:List Int),cm none 1 h v (l.map fun x:Int=>AV.int .u64 x)->(∀a,own v=some a->a<h.next)->∃v' h',call 96 [.agg [.int .u8 k,.int .i64 n,v]] h=some (v',h')/\dg (cJ k n l) h v' h')
 {h:H} {c:aj} {v:AV} (hv:cm none 1 h v (c.aI.map fun x:Int=>AV.int .u64 x)) (dE:∀a,own v=some a->a<h.next):
 WF P call MP [.agg (au c v)] h (dg (fU c) h):=by
 by_cases hg:c.az=3
 ·exact RR P tQ Qj hv dE hg
 ·exact RQ P tQ Qj hv dE hg
def ru:CC:=(Qq (Sq [a 57 3,d 58 2 1,i 59 58,N 60 59,qc 61 3 57 60] (Cq 61 .skip (.exit 1))) (Qq (.block 2 (Qq (.cn ⟨[([R 0 1 2,k 1 64 0,g 2 3,Y 3 65 1 66 2 1,k 4 67 3,R 5 1 2,k 6 69 5,g 7 3,qI 8 71 7 3 1,Y 9 70 6 72 8 1,k 10 73 9,⟨11,[(68,some 4),(74,some 10)],none,.p (.bin .leq 50 false false (.t 68) (.t 74))⟩],none)],[(0,64),(1,65),(2,66),(3,67),(4,68),(5,69),(6,70),(7,71),(8,72),(9,73),(10,74),(11,75)],[]⟩) (Kq 75 [b 2 2] .skip))) (Oq [a 62 3,C 63 3 62 1,a 3 63])))
@[go_sem]def Yi:CF:=⟨1,(Sq [z 1 24 0,b 2 0] (Qq (Sq [d 4 0 1,i 5 4] (.block 0 (Sq [L 7 5 5 1,a 6 7] (Cq 6 (Sq [d 8 1 1,i 9 8,qe 10 3 9 0,a 11 10,qi 12 11 2 1,qh 13 11 12,qr 14 11 13,qO 15 11 3 14 0,O 16 11 15] (Kq 16 [b 2 0] .skip)) (Sq [L 18 5 5 2,a 17 18] (Cq 17 (Sq [d 19 1 1,i 20 19,qP 21 3 20 1,a 22 21,qi 23 22 1 1,qh 24 22 23,jg 25 22 3 24 64,O 26 22 25,a 27 26,qi 28 27 2 1,qh 29 27 28,qr 30 27 29,qO 31 27 3 30 0,O 32 27 31] (Kq 32 [b 2 0] .skip)) (Sq [L 34 5 5 3,a 33 34] (Cq 33 (Qq (Sq [d 35 1 1,i 36 35,A 37 3 36 0,a 38 37,J 39 38 2 1,E 40 38 39,qu 41 38 40,qv 42 38 3 41 1,u 43 38 42,a 44 43,J 45 44 2 1,E 46 44 45,qu 47 44 46,qb 48 44 3 47 63,u 49 44 48,a 50 49,J 51 50 2 1,E 52 50 51,⟨some 53,some (50,false),.p (.mj 1 (.t 52) (.c (.int .i64 0)))⟩,E 54 50 53,jl 55 50 50 54 0,u 56 50 55] (Kq 56 [b 2 2] .skip)) (Qq (Sq [b 3 1] (.block 1 (.loop ru))) (Rq [b 2 0]))) .skip)))))))) (Rq [b 2 2]))),[.tmp 2]⟩
def aM:CC:=(Qq (Sq [a 60 4,D 61 3 60 6] (Cq 61 .skip (.exit 0))) (Qq (.block 1 (Qq (Sq [a 64 4,d 65 7 1,qA 66 6 1 65 64,i 67 66,D 68 3 67 0,a 69 68,r 70 69 4,J 71 69 7 1,⟨some 72,some (69,false),.p (.tP 6 1 (.t 71) (.t 70))⟩,E 73 69 72,r 74 69 3,⟨some 75,some (69,false),.p (.bin .sub 3 true false (.c (.int .i64 1024)) (.t 74))⟩,q9 76 69 3 73 75,u 77 69 76] (Kq 77 [b 2 2] .skip)) (Oq [a 78 3,a 79 4,d 80 7 1,qA 81 6 1 80 79,i 82 81,qg 83 3 78 82,a 3 83]))) (Oq [a 62 4,C 63 3 62 1,a 4 63])))
@[go_sem]def dp:CF:=⟨1,(Sq [z 1 27 0,b 2 0] (Qq (Sq [d 5 0 1,i 6 5,D 7 3 6 1,a 8 7,J 9 8 0 1,E 10 8 9,qb 11 8 3 10 64,u 12 8 11,a 13 12,J 14 13 1 1,E 15 13 14,qv 16 13 3 15 1,u 17 13 16,a 18 17,J 19 18 1 1,E 20 18 19,qb 21 18 3 20 64,u 22 18 21,a 23 22,J 24 23 2 1,E 25 23 24,jk 26 23 5 25 1,u 27 23 26,a 28 27,J 29 28 2 1,E 30 28 29,zH 31 28 5 30 3,u 32 28 31] (Kq 32 [b 2 2] .skip)) (Qq (Sq [d 33 2 1,i 34 33,L 35 5 34 3,a 36 35,qi 37 36 3 1,qh 38 36 37,qy 39 36 3 38 1,K 40 36 39,J 41 40 3 1,E 42 40 41,qb 43 40 3 42 16,za 44 36 40 43,O 45 36 44,a 46 45,J 47 46 2 1,E 48 46 47,jm 49 46 5 48 3,r 50 46 49,qi 51 50 3 1,qh 52 50 51,jn 53 50 3 52 0,zJ 54 46 50 53,u 55 46 54] (Kq 55 [b 2 2] .skip)) (Qq (Sq [d 56 4 1,S 57 3 56,q 58 116 57,A 59 41 58 0] (Kq 59 [b 2 2] .skip)) (Sq [b 3 0] (Qq (Sq [b 4 0] (.block 0 (.loop aM))) (Qq (Sq [d 84 13 1,i 85 84,D 86 3 85 1,a 87 86,J 88 87 13 1,E 89 87 88,qb 90 87 3 89 16,u 91 87 90,a 92 91,J 93 92 14 1,E 94 92 93,qv 95 92 3 94 1,u 96 92 95,a 97 96,J 98 97 14 1,E 99 97 98,qb 100 97 3 99 255,u 101 97 100,a 102 101,J 103 102 15 1,E 104 102 103,qv 105 102 3 104 0,u 106 102 105,a 107 106,J 108 107 15 1,E 109 107 108,qb 110 107 3 109 64,u 111 107 110] (Kq 111 [b 2 2] .skip)) (Rq [b 2 0])))))))),[.tmp 2]⟩
def kB(x:Int):Prop:=0<=x/\x<18446744073709551616
def I19(h0:H)(D:Nat)(l:List Int)(k:Nat)(tm:T AV)(h:H):Prop:=
 h=h0/\tm.get 1=some (.ptr D 0)/\∃(i:Nat) (a:Int),i+1+k=l.length/\l[i]?=some a/\tm.get 3=some (.int .i64 ((i+1:Nat):Int))/\fB 0 l=fB a (l.drop (i+1))
theorem RS(P:Program){call:ab}{h0:H}{D:Nat}{kd n:Int}{v:AV}{l:List Int}(gD:h0.t.get D=some (ag [.int .u8 kd,.int .i64 n,v] 24))(hv:cm none 1 h0 v (l.map fun x:Int=>AV.int .u64 x))(k:Nat)(tm:T AV)(h:H)(hI:I19 h0 D l k tm h):
 WC P call ru (bM 1 (fun tm h=>∃j,j<k/\I19 h0 D l j tm h) (fun tm h=>h=h0/\fB 0 l=true) (fun tm h=>h=h0/\fB 0 l=false/\tm.get 2=some (.int .i64 2))) tm h:=by
 obtain⟨rfl,t1,i,a,Cu,hia,t3,Av⟩:=hI;have hle:=hv.le;have gr:=hv.bR;rw[List.length_map]at hle gr;have e3:((i+1:Nat):Int)=(i:Int)+1:=rfl;cases k with
 |zero=>
  have e1:¬(i:Int)+1<(l.length:Int):=by omega
  simp only[go_sem,seval,ru,t1,t3,gD,gr,e1,e3];rw[Av,List.drop_eq_nil_of_le (by omega)];rfl
 |succ k=>
  have e1:(i:Int)+1<(l.length:Int):=by omega
  have hi:i+1<l.length:=by omega
  rcases hv with⟨_,hh⟩|⟨b,o,cap,rfl,_,ra⟩
  ·rw[List.map_eq_nil_iff]at hh;subst hh;simp at hi
  have ha:=ra (i+1) (.int .u64 l[i+1]) (by simp[hi]);have hb:=ra i (.int .u64 a) (by rw[List.getElem?_map,hia];rfl);rw[ko,Nat.mul_one]at ha hb;rw[List.length_map]at gD gr;rw[List.drop_eq_getElem_cons hi]at Av;have f1:fw .i64 ((i:Int)+1+1)=(i:Int)+1+1:=aS (by omega) (by omega);have f2:fw .i64 ((i:Int)+1-1)=(i:Int):=by rw[show(i:Int)+1-1=(i:Int) by omega];exact aS (by omega) (by omega)
  have e4:(0:Int)<=(i:Int)+1:=by omega
  have e5:((i:Int)+1).toNat=i+1:=by omega
  have e6:(i:Int)<(l.length:Int):=by omega
  simp only[go_sem,seval,ru,t1,t3,gD,gr,e1,e3,e4,e5,e6,f2,Nat.mul_one,ha,hb]
  by_cases hx:l[i+1]<=a
  ·have H9:¬a<l[i+1]:=by omega
   simp only[go_sem,seval,H9];rw[Av,fB,if_pos hx]
  ·have H9:a<l[i+1]:=by omega
   simp only[go_sem,seval,H9,t3,e3,f1];refine⟨k,Nat.lt_succ_self k,rfl,by simp[go_sem,t1],i+1,l[i+1],by omega,by simp[hi],?_,by rw[Av,fB,if_neg hx]⟩;simp only[go_sem,seval,show(((i+1+1:Nat)):Int)=(i:Int)+1+1 from rfl]
theorem IB{x:Int}{l:List Int}(hx:0<x):fB 0 (x::l)=fB x l:=by rw[fB,if_neg (by omega)]
theorem Yj(P:Program){call:ab}{h:H}{k n:Int}{v:AV}{l:List Int}(hv:cm none 1 h v (l.map fun x:Int=>AV.int .u64 x))(dE:∀a,own v=some a->a<h.next)(fH:∀x∈l,kB x):
 WF P call Yi [.agg [.int .u8 k,.int .i64 n,v]] h (dg (cJ k n l) h):=by
 have ov:=hv.one;have gr:=hv.bR;rw[List.length_map]at gr;have st:∀x,ae h ⟨h.next+1,h.t.set h.next x⟩:=fun x=>ae.new h x
 have ln:((l.length:Int)=0)=(l=[]):=by rw[←List.length_eq_zero_iff];apply propext;omega
 by_cases k1:k=1
 ·subst k1
  by_cases n0:n=0
  ·by_cases l0:l=[]
   ·simp only[go_sem,seval,ov,gr,n0,ln,l0];exact⟨0,rfl,by simp[cJ],st _⟩
   ·simp only[go_sem,seval,ov,gr,n0,ln,l0];exact⟨2,rfl,by simp[cJ,l0],st _⟩
  ·simp only[go_sem,seval,ov,gr,n0,ln];exact⟨2,rfl,by simp[cJ,n0],st _⟩
 by_cases k2:k=2
 ·subst k2
  by_cases n1:n<1
  ·simp only[go_sem,seval,ov,gr,n1,ln];exact⟨2,rfl,by simp[cJ];intro h1 h2 h3;omega,st _⟩
  ·by_cases n2:64<n
   ·simp only[go_sem,seval,ov,gr,n1,n2,ln];exact⟨2,rfl,by simp[cJ];intro h1 h2 h3;omega,st _⟩
   ·by_cases l0:l=[]
    ·simp only[go_sem,seval,ov,gr,n1,n2,ln,l0];exact⟨0,rfl,by simp[cJ];omega,st _⟩
    ·simp only[go_sem,seval,ov,gr,n1,n2,ln,l0];exact⟨2,rfl,by simp[cJ,l0],st _⟩
 by_cases k3:k=3
 case neg=>
  simp only[go_sem,seval,ov,gr,k1,k2,k3];exact⟨2,rfl,by simp[cJ,k1,k2,k3],st _⟩
 subst k3
 by_cases n0:n=0
 case neg=>
  simp only[go_sem,seval,ov,gr,n0];exact⟨2,rfl,by simp[cJ,n0],st _⟩
 by_cases l1:(l.length:Int)<1
 case pos=>
  simp only[go_sem,seval,ov,gr,n0,l1];have hn:¬cJ 3 0 l:=by rintro (⟨h1,_⟩|⟨h1,_⟩|⟨_,_,h3,h4,_⟩)<;>omega
  exact⟨2,rfl,by simp[hn],st _⟩
 by_cases l2:(63:Int)<(l.length:Int)
 case pos=>
  simp only[go_sem,seval,ov,gr,n0,l1,l2];have hn:¬cJ 3 0 l:=by rintro (⟨h1,_⟩|⟨h1,_⟩|⟨_,_,h3,h4,_⟩)<;>omega
  exact⟨2,rfl,by simp[hn],st _⟩
 obtain⟨x,m,rfl⟩:∃x m,l=x::m:=by
  cases l with
  |nil=>simp at l1
  |cons x m=>exact⟨x,m,rfl⟩
 have bC:=st (.row (aa 0 [.int .u8 3,.int .i64 0,v] T.e) 3 24);have xU:=hv.aF (h':=⟨h.next+1,h.t.set h.next (.row (aa 0 [.int .u8 3,.int .i64 0,v] T.e) 3 24)⟩) fun b hb=>bC.old b (dE b hb)
 have afP:=fH x (by simp);rcases id hv with⟨_,hh⟩|⟨b,o,cap,rfl,_,ra⟩
 ·simp at hh
 have hL:(List.map (fun x:Int=>AV.int .u64 x) (x::m)).length=m.length+1:=by simp
 have ha:=ra 0 (.int .u64 x) rfl;rw[hL]at xU bC ov gr dE;rw[ko,Nat.mul_one,Nat.add_zero]at ha;have nb:¬b=h.next:=by have:=dE b rfl;omega
 have e6:(0:Int)<((x::m).length:Int):=by simp only[List.length_cons];omega
 have e7:¬((m.length+1:Nat):Int)<1:=by simp only[List.length_cons]at l1;omega
 have e8:¬(63:Int)<((m.length+1:Nat):Int):=by simp only[List.length_cons]at l2;omega
 have e9:(0:Int)<((m.length+1:Nat):Int):=by omega
 by_cases x0:x=0
 ·simp only[go_sem,seval,ov,gr,n0,l1,l2,List.length_map,Nat.mul_one,nb,ha,e7,e8,e9,x0];exact⟨2,rfl,by simp[cJ,fB],st _⟩
 have xp:0<x:=by have:=afP.1;omega
 simp only[go_sem,seval,ov,gr,n0,l1,l2,List.length_map,Nat.mul_one,nb,ha,e7,e8,e9,x0];refine aT (I19 _ h.next (x::m)) _ _ (fun k tm h' hI=>RS P (by simp only[go_sem,seval];rfl) xU k tm h' hI) (fun dC h2 hR=>?_) (fun dC h2 hS=>?_) m.length _ _
  ⟨rfl,by simp[go_sem],0,x,by simp;omega,rfl,by simp[go_sem],IB xp⟩
 ·obtain⟨rfl,hc⟩:=hR;simp only[go_sem,seval];exact⟨0,rfl,by simp[cJ,hc];simp at e8;omega,bC⟩
 ·obtain⟨rfl,hc,t2⟩:=hS;simp only[go_sem,seval,t2];exact⟨2,rfl,by simp[cJ,hc],bC⟩
set_option maxHeartbeats 2000000 in
set_option maxRecDepth 10000 in
theorem RT(Qk:∀h k n v (l:List Int),cm none 1 h v (l.map fun x:Int=>AV.int .u64 x)->(∀a,own v=some a->a<h.next)->(∀x∈l,kB x)->∃v' h',call 116 [.agg [.int .u8 k,.int .i64 n,v]] h=some (v',h')/\dg (cJ k n l) h v' h')
 {h:H} {c:aj} {v:AV} (hv:cm none 1 h v (c.aI.map fun x:Int=>AV.int .u64 x)) (dE:∀a,own v=some a->a<h.next) (fH:∀x∈c.aI,kB x) (hg:c.az=3):
 WF P call dp [.agg (au c v)] h (dg (fU c) h):=by
 have ov:=hv.one;have st:∀x,ae h ⟨h.next+1,h.t.set h.next x⟩:=fun x=>ae.new h x
 have bad:∀(p:Prop) x,¬p->dg p h (.int .i64 2) ⟨h.next+1,h.t.set h.next x⟩:=fun p x hp=>⟨2,rfl,by simp[hp],st x⟩
 by_cases c1:c.threads<1
 case pos=>
  simp only[go_sem,seval,dp,ov,au,c1];exact bad _ _ (by rintro ⟨_,q1,q2,q3,q4,q5,q6,q7,q8,q9,iI⟩;omega)
 by_cases c2:64<c.threads
 case pos=>
  simp only[go_sem,seval,dp,ov,au,c1,c2];exact bad _ _ (by rintro ⟨_,q1,q2,q3,q4,q5,q6,q7,q8,q9,iI⟩;omega)
 by_cases mE:c.aq<1
 case pos=>
  simp only[go_sem,seval,dp,ov,au,c1,c2,mE];exact bad _ _ (by rintro ⟨_,q1,q2,q3,q4,q5,q6,q7,q8,q9,iI⟩;omega)
 by_cases iV:64<c.aq
 case pos=>
  simp only[go_sem,seval,dp,ov,au,c1,c2,mE,iV];exact bad _ _ (by rintro ⟨_,q1,q2,q3,q4,q5,q6,q7,q8,q9,iI⟩;omega)
 by_cases dp:c.az<1
 case pos=>
  simp only[go_sem,seval,dp,ov,au,c1,c2,mE,iV,dp];exact bad _ _ (by rintro ⟨_,q1,q2,q3,q4,q5,q6,q7,q8,q9,iI⟩;omega)
 by_cases IC:3<c.az
 case pos=>
  simp only[go_sem,seval,dp,ov,au,c1,c2,mE,iV,dp,IC];exact bad _ _ (by rintro ⟨_,q1,q2,q3,q4,q5,q6,q7,q8,q9,iI⟩;omega)
 by_cases ID:c.buckets<1
 case pos=>
  simp only[go_sem,seval,dp,ov,au,c1,c2,mE,iV,dp,IC,hg,ID];exact bad _ _ (by rintro ⟨_,q1,q2,q3,q4,q5,q6,q7,q8,q9,iI⟩;have:=q5 hg;omega)
 by_cases MR:16<c.buckets
 case pos=>
  simp only[go_sem,seval,dp,ov,au,c1,c2,mE,iV,dp,IC,hg,ID,MR];exact bad _ _ (by rintro ⟨_,q1,q2,q3,q4,q5,q6,q7,q8,q9,iI⟩;have:=q5 hg;omega)
 simp only[go_sem,seval,dp,ov,au,c1,c2,mE,iV,dp,IC,hg,ID,MR];refine af (Qk _ c.kind c.n v c.aI (hv.aF fun b hb=>(st _).old b (dE b hb)) (fun a ha=>Nat.lt_of_lt_of_le (dE a ha) (st _).next) fH) fun v1 h1 p1=>?_
 obtain⟨e,rfl,he,bC⟩:=p1;have IA:=(st _).trans bC;have g0:=bC.old h.next (by show h.next<h.next+1;omega);simp only[go_sem,seval]at g0;have cQ:∀p:Prop,¬p->dg p h (.int .i64 2) h1:=fun p hp=>⟨2,rfl,by simp[hp],IA⟩
 by_cases d0:e=0
 case neg=>
  simp only[go_sem,seval,d0,g0];exact cQ _ (by rintro ⟨_,q1,q2,q3,q4,q5,q6,q7,q8,q9,iI⟩;exact d0 (he.2 q7))
 have dd:=he.1 d0;simp only[go_sem,seval,d0,g0];refine kq 7 ?_
 simp only[go_sem,seval,aM,g0,dA,dN,dP,ec,ed,eg]
 by_cases a0:c.t0<0
 case pos=>
  simp only[go_sem,seval,aM,g0,Int.zero_add,Int.sub_zero,dA,dN,dP,ec,ed,eg,a0];exact cQ _ (by rintro ⟨ht,_⟩;simp only[bZ]at ht;omega)
 have u0:fw .i64 (1024)=1024:=rfl
 by_cases b0:1024<c.t0
 case pos=>
  simp only[go_sem,seval,aM,g0,Int.zero_add,Int.sub_zero,dA,dN,dP,ec,ed,eg,a0,u0,b0];exact cQ _ (by rintro ⟨ht,_⟩;simp only[bZ]at ht;omega)
 have f0:fw .i64 (c.t0)=c.t0:=aS (by omega) (by omega);simp only[go_sem,seval,aM,g0,Int.zero_add,Int.sub_zero,a0,u0,b0,f0,dA,dN,dP,ec,ed,eg]
 by_cases a1:c.t1<0
 case pos=>
  simp only[go_sem,seval,aM,g0,Int.zero_add,Int.sub_zero,a0,u0,b0,f0,dA,dN,dP,ec,ed,eg,a1];exact cQ _ (by rintro ⟨ht,_⟩;simp only[bZ]at ht;omega)
 have u1:fw .i64 (1024-(c.t0))=1024-(c.t0):=aS (by omega) (by omega)
 by_cases b1:1024-(c.t0)<c.t1
 case pos=>
  simp only[go_sem,seval,aM,g0,Int.zero_add,Int.sub_zero,a0,u0,b0,f0,dA,dN,dP,ec,ed,eg,a1,u1,b1];exact cQ _ (by rintro ⟨ht,_⟩;simp only[bZ]at ht;omega)
 have f1:fw .i64 (c.t0+c.t1)=c.t0+c.t1:=aS (by omega) (by omega);simp only[go_sem,seval,aM,g0,Int.zero_add,Int.sub_zero,a0,u0,b0,f0,a1,u1,b1,f1,dA,dN,dP,ec,ed,eg]
 by_cases a2:c.t2<0
 case pos=>
  simp only[go_sem,seval,aM,g0,Int.zero_add,Int.sub_zero,a0,u0,b0,f0,a1,u1,b1,f1,dA,dN,dP,ec,ed,eg,a2];exact cQ _ (by rintro ⟨ht,_⟩;simp only[bZ]at ht;omega)
 have u2:fw .i64 (1024-(c.t0+c.t1))=1024-(c.t0+c.t1):=aS (by omega) (by omega)
 by_cases b2:1024-(c.t0+c.t1)<c.t2
 case pos=>
  simp only[go_sem,seval,aM,g0,Int.zero_add,Int.sub_zero,a0,u0,b0,f0,a1,u1,b1,f1,dA,dN,dP,ec,ed,eg,a2,u2,b2];exact cQ _ (by rintro ⟨ht,_⟩;simp only[bZ]at ht;omega)
 have f2:fw .i64 (c.t0+c.t1+c.t2)=c.t0+c.t1+c.t2:=aS (by omega) (by omega);simp only[go_sem,seval,aM,g0,Int.zero_add,Int.sub_zero,a0,u0,b0,f0,a1,u1,b1,f1,a2,u2,b2,f2,dA,dN,dP,ec,ed,eg]
 by_cases a3:c.t3<0
 case pos=>
  simp only[go_sem,seval,aM,g0,Int.zero_add,Int.sub_zero,a0,u0,b0,f0,a1,u1,b1,f1,a2,u2,b2,f2,dA,dN,dP,ec,ed,eg,a3];exact cQ _ (by rintro ⟨ht,_⟩;simp only[bZ]at ht;omega)
 have u3:fw .i64 (1024-(c.t0+c.t1+c.t2))=1024-(c.t0+c.t1+c.t2):=aS (by omega) (by omega)
 by_cases b3:1024-(c.t0+c.t1+c.t2)<c.t3
 case pos=>
  simp only[go_sem,seval,aM,g0,Int.zero_add,Int.sub_zero,a0,u0,b0,f0,a1,u1,b1,f1,a2,u2,b2,f2,dA,dN,dP,ec,ed,eg,a3,u3,b3];exact cQ _ (by rintro ⟨ht,_⟩;simp only[bZ]at ht;omega)
 have f3:fw .i64 (c.t0+c.t1+c.t2+c.t3)=c.t0+c.t1+c.t2+c.t3:=aS (by omega) (by omega);simp only[go_sem,seval,aM,g0,Int.zero_add,Int.sub_zero,a0,u0,b0,f0,a1,u1,b1,f1,a2,u2,b2,f2,a3,u3,b3,f3,dA,dN,dP,ec,ed,eg]
 by_cases a4:c.t4<0
 case pos=>
  simp only[go_sem,seval,aM,g0,Int.zero_add,Int.sub_zero,a0,u0,b0,f0,a1,u1,b1,f1,a2,u2,b2,f2,a3,u3,b3,f3,dA,dN,dP,ec,ed,eg,a4];exact cQ _ (by rintro ⟨ht,_⟩;simp only[bZ]at ht;omega)
 have u4:fw .i64 (1024-(c.t0+c.t1+c.t2+c.t3))=1024-(c.t0+c.t1+c.t2+c.t3):=aS (by omega) (by omega)
 by_cases b4:1024-(c.t0+c.t1+c.t2+c.t3)<c.t4
 case pos=>
  simp only[go_sem,seval,aM,g0,Int.zero_add,Int.sub_zero,a0,u0,b0,f0,a1,u1,b1,f1,a2,u2,b2,f2,a3,u3,b3,f3,dA,dN,dP,ec,ed,eg,a4,u4,b4];exact cQ _ (by rintro ⟨ht,_⟩;simp only[bZ]at ht;omega)
 have f4:fw .i64 (c.t0+c.t1+c.t2+c.t3+c.t4)=c.t0+c.t1+c.t2+c.t3+c.t4:=aS (by omega) (by omega);simp only[go_sem,seval,aM,g0,Int.zero_add,Int.sub_zero,a0,u0,b0,f0,a1,u1,b1,f1,a2,u2,b2,f2,a3,u3,b3,f3,a4,u4,b4,f4,dA,dN,dP,ec,ed,eg]
 by_cases a5:c.t5<0
 case pos=>
  simp only[go_sem,seval,aM,g0,Int.zero_add,Int.sub_zero,a0,u0,b0,f0,a1,u1,b1,f1,a2,u2,b2,f2,a3,u3,b3,f3,a4,u4,b4,f4,dA,dN,dP,ec,ed,eg,a5];exact cQ _ (by rintro ⟨ht,_⟩;simp only[bZ]at ht;omega)
 have u5:fw .i64 (1024-(c.t0+c.t1+c.t2+c.t3+c.t4))=1024-(c.t0+c.t1+c.t2+c.t3+c.t4):=aS (by omega) (by omega)
 by_cases b5:1024-(c.t0+c.t1+c.t2+c.t3+c.t4)<c.t5
 case pos=>
  simp only[go_sem,seval,aM,g0,Int.zero_add,Int.sub_zero,a0,u0,b0,f0,a1,u1,b1,f1,a2,u2,b2,f2,a3,u3,b3,f3,a4,u4,b4,f4,dA,dN,dP,ec,ed,eg,a5,u5,b5];exact cQ _ (by rintro ⟨ht,_⟩;simp only[bZ]at ht;omega)
 have f5:fw .i64 (c.t0+c.t1+c.t2+c.t3+c.t4+c.t5)=c.t0+c.t1+c.t2+c.t3+c.t4+c.t5:=aS (by omega) (by omega);simp only[go_sem,seval,aM,g0,Int.zero_add,Int.sub_zero,a0,u0,b0,f0,a1,u1,b1,f1,a2,u2,b2,f2,a3,u3,b3,f3,a4,u4,b4,f4,a5,u5,b5,f5,dA,dN,dP,ec,ed,eg];have ht:bZ 1024 [c.t0,c.t1,c.t2,c.t3,c.t4,c.t5]:=by simp only[bZ,and_true];omega
 by_cases l1:c.bY<1
 case pos=>
  simp only[go_sem,seval,g0,l1];exact cQ _ (by rintro ⟨_,q1,q2,q3,q4,q5,q6,q7,q8,q9,iI,yE⟩;omega)
 by_cases l2:16<c.bY
 case pos=>
  simp only[go_sem,seval,g0,l1,l2];exact cQ _ (by rintro ⟨_,q1,q2,q3,q4,q5,q6,q7,q8,q9,iI,yE⟩;omega)
 by_cases l3:c.tries<1
 case pos=>
  simp only[go_sem,seval,g0,l1,l2,l3];exact cQ _ (by rintro ⟨_,q1,q2,q3,q4,q5,q6,q7,q8,q9,iI,yE⟩;omega)
 by_cases l4:255<c.tries
 case pos=>
  simp only[go_sem,seval,g0,l1,l2,l3,l4];exact cQ _ (by rintro ⟨_,q1,q2,q3,q4,q5,q6,q7,q8,q9,iI,yE⟩;omega)
 by_cases l5:c.batch<0
 case pos=>
  simp only[go_sem,seval,g0,l1,l2,l3,l4,l5];exact cQ _ (by rintro ⟨_,q1,q2,q3,q4,q5,q6,q7,q8,q9,iI,yE⟩;omega)
 by_cases l6:64<c.batch
 case pos=>
  simp only[go_sem,seval,g0,l1,l2,l3,l4,l5,l6];exact cQ _ (by rintro ⟨_,q1,q2,q3,q4,q5,q6,q7,q8,q9,iI,yE⟩;omega)
 simp only[go_sem,seval,g0,l1,l2,l3,l4,l5,l6];exact⟨0,rfl,by simp only[true_iff];exact⟨ht,by omega,by omega,by omega,by omega,fun _=>by omega,fun q=>absurd hg q,dd,by omega,by omega,by omega,by omega⟩,IA⟩
set_option maxHeartbeats 2000000 in
set_option maxRecDepth 10000 in
theorem RU(Qk:∀h k n v (l:List Int),cm none 1 h v (l.map fun x:Int=>AV.int .u64 x)->(∀a,own v=some a->a<h.next)->(∀x∈l,kB x)->∃v' h',call 116 [.agg [.int .u8 k,.int .i64 n,v]] h=some (v',h')/\dg (cJ k n l) h v' h')
 {h:H} {c:aj} {v:AV} (hv:cm none 1 h v (c.aI.map fun x:Int=>AV.int .u64 x)) (dE:∀a,own v=some a->a<h.next) (fH:∀x∈c.aI,kB x) (hg:¬c.az=3):
 WF P call dp [.agg (au c v)] h (dg (fU c) h):=by
 have ov:=hv.one;have st:∀x,ae h ⟨h.next+1,h.t.set h.next x⟩:=fun x=>ae.new h x
 have bad:∀(p:Prop) x,¬p->dg p h (.int .i64 2) ⟨h.next+1,h.t.set h.next x⟩:=fun p x hp=>⟨2,rfl,by simp[hp],st x⟩
 by_cases c1:c.threads<1
 case pos=>
  simp only[go_sem,seval,dp,ov,au,c1];exact bad _ _ (by rintro ⟨_,q1,q2,q3,q4,q5,q6,q7,q8,q9,iI⟩;omega)
 by_cases c2:64<c.threads
 case pos=>
  simp only[go_sem,seval,dp,ov,au,c1,c2];exact bad _ _ (by rintro ⟨_,q1,q2,q3,q4,q5,q6,q7,q8,q9,iI⟩;omega)
 by_cases mE:c.aq<1
 case pos=>
  simp only[go_sem,seval,dp,ov,au,c1,c2,mE];exact bad _ _ (by rintro ⟨_,q1,q2,q3,q4,q5,q6,q7,q8,q9,iI⟩;omega)
 by_cases iV:64<c.aq
 case pos=>
  simp only[go_sem,seval,dp,ov,au,c1,c2,mE,iV];exact bad _ _ (by rintro ⟨_,q1,q2,q3,q4,q5,q6,q7,q8,q9,iI⟩;omega)
 by_cases dp:c.az<1
 case pos=>
  simp only[go_sem,seval,dp,ov,au,c1,c2,mE,iV,dp];exact bad _ _ (by rintro ⟨_,q1,q2,q3,q4,q5,q6,q7,q8,q9,iI⟩;omega)
 by_cases IC:3<c.az
 case pos=>
  simp only[go_sem,seval,dp,ov,au,c1,c2,mE,iV,dp,IC];exact bad _ _ (by rintro ⟨_,q1,q2,q3,q4,q5,q6,q7,q8,q9,iI⟩;omega)
 by_cases ID:c.buckets=0
 case neg=>
  simp only[go_sem,seval,dp,ov,au,c1,c2,mE,iV,dp,IC,hg,ID];exact bad _ _ (by rintro ⟨_,q1,q2,q3,q4,q5,q6,q7,q8,q9,iI⟩;exact ID (q6 hg))
 have MR:True:=trivial;simp only[go_sem,seval,dp,ov,au,c1,c2,mE,iV,dp,IC,hg,ID,MR];refine af (Qk _ c.kind c.n v c.aI (hv.aF fun b hb=>(st _).old b (dE b hb)) (fun a ha=>Nat.lt_of_lt_of_le (dE a ha) (st _).next) fH) fun v1 h1 p1=>?_
 obtain⟨e,rfl,he,bC⟩:=p1;have IA:=(st _).trans bC;have g0:=bC.old h.next (by show h.next<h.next+1;omega);simp only[go_sem,seval]at g0;have cQ:∀p:Prop,¬p->dg p h (.int .i64 2) h1:=fun p hp=>⟨2,rfl,by simp[hp],IA⟩
 by_cases d0:e=0
 case neg=>
  simp only[go_sem,seval,d0,g0];exact cQ _ (by rintro ⟨_,q1,q2,q3,q4,q5,q6,q7,q8,q9,iI⟩;exact d0 (he.2 q7))
 have dd:=he.1 d0;simp only[go_sem,seval,d0,g0];refine kq 7 ?_
 simp only[go_sem,seval,aM,g0,dA,dN,dP,ec,ed,eg]
 by_cases a0:c.t0<0
 case pos=>
  simp only[go_sem,seval,aM,g0,Int.zero_add,Int.sub_zero,dA,dN,dP,ec,ed,eg,a0];exact cQ _ (by rintro ⟨ht,_⟩;simp only[bZ]at ht;omega)
 have u0:fw .i64 (1024)=1024:=rfl
 by_cases b0:1024<c.t0
 case pos=>
  simp only[go_sem,seval,aM,g0,Int.zero_add,Int.sub_zero,dA,dN,dP,ec,ed,eg,a0,u0,b0];exact cQ _ (by rintro ⟨ht,_⟩;simp only[bZ]at ht;omega)
 have f0:fw .i64 (c.t0)=c.t0:=aS (by omega) (by omega);simp only[go_sem,seval,aM,g0,Int.zero_add,Int.sub_zero,a0,u0,b0,f0,dA,dN,dP,ec,ed,eg]
 by_cases a1:c.t1<0
 case pos=>
  simp only[go_sem,seval,aM,g0,Int.zero_add,Int.sub_zero,a0,u0,b0,f0,dA,dN,dP,ec,ed,eg,a1];exact cQ _ (by rintro ⟨ht,_⟩;simp only[bZ]at ht;omega)
 have u1:fw .i64 (1024-(c.t0))=1024-(c.t0):=aS (by omega) (by omega)
 by_cases b1:1024-(c.t0)<c.t1
 case pos=>
  simp only[go_sem,seval,aM,g0,Int.zero_add,Int.sub_zero,a0,u0,b0,f0,dA,dN,dP,ec,ed,eg,a1,u1,b1];exact cQ _ (by rintro ⟨ht,_⟩;simp only[bZ]at ht;omega)
 have f1:fw .i64 (c.t0+c.t1)=c.t0+c.t1:=aS (by omega) (by omega);simp only[go_sem,seval,aM,g0,Int.zero_add,Int.sub_zero,a0,u0,b0,f0,a1,u1,b1,f1,dA,dN,dP,ec,ed,eg]
 by_cases a2:c.t2<0
 case pos=>
  simp only[go_sem,seval,aM,g0,Int.zero_add,Int.sub_zero,a0,u0,b0,f0,a1,u1,b1,f1,dA,dN,dP,ec,ed,eg,a2];exact cQ _ (by rintro ⟨ht,_⟩;simp only[bZ]at ht;omega)
 have u2:fw .i64 (1024-(c.t0+c.t1))=1024-(c.t0+c.t1):=aS (by omega) (by omega)
 by_cases b2:1024-(c.t0+c.t1)<c.t2
 case pos=>
  simp only[go_sem,seval,aM,g0,Int.zero_add,Int.sub_zero,a0,u0,b0,f0,a1,u1,b1,f1,dA,dN,dP,ec,ed,eg,a2,u2,b2];exact cQ _ (by rintro ⟨ht,_⟩;simp only[bZ]at ht;omega)
 have f2:fw .i64 (c.t0+c.t1+c.t2)=c.t0+c.t1+c.t2:=aS (by omega) (by omega);simp only[go_sem,seval,aM,g0,Int.zero_add,Int.sub_zero,a0,u0,b0,f0,a1,u1,b1,f1,a2,u2,b2,f2,dA,dN,dP,ec,ed,eg]
 by_cases a3:c.t3<0
 case pos=>
  simp only[go_sem,seval,aM,g0,Int.zero_add,Int.sub_zero,a0,u0,b0,f0,a1,u1,b1,f1,a2,u2,b2,f2,dA,dN,dP,ec,ed,eg,a3];exact cQ _ (by rintro ⟨ht,_⟩;simp only[bZ]at ht;omega)
 have u3:fw .i64 (1024-(c.t0+c.t1+c.t2))=1024-(c.t0+c.t1+c.t2):=aS (by omega) (by omega)
 by_cases b3:1024-(c.t0+c.t1+c.t2)<c.t3
 case pos=>
  simp only[go_sem,seval,aM,g0,Int.zero_add,Int.sub_zero,a0,u0,b0,f0,a1,u1,b1,f1,a2,u2,b2,f2,dA,dN,dP,ec,ed,eg,a3,u3,b3];exact cQ _ (by rintro ⟨ht,_⟩;simp only[bZ]at ht;omega)
 have f3:fw .i64 (c.t0+c.t1+c.t2+c.t3)=c.t0+c.t1+c.t2+c.t3:=aS (by omega) (by omega);simp only[go_sem,seval,aM,g0,Int.zero_add,Int.sub_zero,a0,u0,b0,f0,a1,u1,b1,f1,a2,u2,b2,f2,a3,u3,b3,f3,dA,dN,dP,ec,ed,eg]
 by_cases a4:c.t4<0
 case pos=>
  simp only[go_sem,seval,aM,g0,Int.zero_add,Int.sub_zero,a0,u0,b0,f0,a1,u1,b1,f1,a2,u2,b2,f2,a3,u3,b3,f3,dA,dN,dP,ec,ed,eg,a4];exact cQ _ (by rintro ⟨ht,_⟩;simp only[bZ]at ht;omega)
 have u4:fw .i64 (1024-(c.t0+c.t1+c.t2+c.t3))=1024-(c.t0+c.t1+c.t2+c.t3):=aS (by omega) (by omega)
 by_cases b4:1024-(c.t0+c.t1+c.t2+c.t3)<c.t4
 case pos=>
  simp only[go_sem,seval,aM,g0,Int.zero_add,Int.sub_zero,a0,u0,b0,f0,a1,u1,b1,f1,a2,u2,b2,f2,a3,u3,b3,f3,dA,dN,dP,ec,ed,eg,a4,u4,b4];exact cQ _ (by rintro ⟨ht,_⟩;simp only[bZ]at ht;omega)
 have f4:fw .i64 (c.t0+c.t1+c.t2+c.t3+c.t4)=c.t0+c.t1+c.t2+c.t3+c.t4:=aS (by omega) (by omega);simp only[go_sem,seval,aM,g0,Int.zero_add,Int.sub_zero,a0,u0,b0,f0,a1,u1,b1,f1,a2,u2,b2,f2,a3,u3,b3,f3,a4,u4,b4,f4,dA,dN,dP,ec,ed,eg]
 by_cases a5:c.t5<0
 case pos=>
  simp only[go_sem,seval,aM,g0,Int.zero_add,Int.sub_zero,a0,u0,b0,f0,a1,u1,b1,f1,a2,u2,b2,f2,a3,u3,b3,f3,a4,u4,b4,f4,dA,dN,dP,ec,ed,eg,a5];exact cQ _ (by rintro ⟨ht,_⟩;simp only[bZ]at ht;omega)
 have u5:fw .i64 (1024-(c.t0+c.t1+c.t2+c.t3+c.t4))=1024-(c.t0+c.t1+c.t2+c.t3+c.t4):=aS (by omega) (by omega)
 by_cases b5:1024-(c.t0+c.t1+c.t2+c.t3+c.t4)<c.t5
 case pos=>
  simp only[go_sem,seval,aM,g0,Int.zero_add,Int.sub_zero,a0,u0,b0,f0,a1,u1,b1,f1,a2,u2,b2,f2,a3,u3,b3,f3,a4,u4,b4,f4,dA,dN,dP,ec,ed,eg,a5,u5,b5];exact cQ _ (by rintro ⟨ht,_⟩;simp only[bZ]at ht;omega)
 have f5:fw .i64 (c.t0+c.t1+c.t2+c.t3+c.t4+c.t5)=c.t0+c.t1+c.t2+c.t3+c.t4+c.t5:=aS (by omega) (by omega);simp only[go_sem,seval,aM,g0,Int.zero_add,Int.sub_zero,a0,u0,b0,f0,a1,u1,b1,f1,a2,u2,b2,f2,a3,u3,b3,f3,a4,u4,b4,f4,a5,u5,b5,f5,dA,dN,dP,ec,ed,eg];have ht:bZ 1024 [c.t0,c.t1,c.t2,c.t3,c.t4,c.t5]:=by simp only[bZ,and_true];omega
 by_cases l1:c.bY<1
 case pos=>
  simp only[go_sem,seval,g0,l1];exact cQ _ (by rintro ⟨_,q1,q2,q3,q4,q5,q6,q7,q8,q9,iI,yE⟩;omega)
 by_cases l2:16<c.bY
 case pos=>
  simp only[go_sem,seval,g0,l1,l2];exact cQ _ (by rintro ⟨_,q1,q2,q3,q4,q5,q6,q7,q8,q9,iI,yE⟩;omega)
 by_cases l3:c.tries<1
 case pos=>
  simp only[go_sem,seval,g0,l1,l2,l3];exact cQ _ (by rintro ⟨_,q1,q2,q3,q4,q5,q6,q7,q8,q9,iI,yE⟩;omega)
 by_cases l4:255<c.tries
 case pos=>
  simp only[go_sem,seval,g0,l1,l2,l3,l4];exact cQ _ (by rintro ⟨_,q1,q2,q3,q4,q5,q6,q7,q8,q9,iI,yE⟩;omega)
 by_cases l5:c.batch<0
 case pos=>
  simp only[go_sem,seval,g0,l1,l2,l3,l4,l5];exact cQ _ (by rintro ⟨_,q1,q2,q3,q4,q5,q6,q7,q8,q9,iI,yE⟩;omega)
 by_cases l6:64<c.batch
 case pos=>
  simp only[go_sem,seval,g0,l1,l2,l3,l4,l5,l6];exact cQ _ (by rintro ⟨_,q1,q2,q3,q4,q5,q6,q7,q8,q9,iI,yE⟩;omega)
 simp only[go_sem,seval,g0,l1,l2,l3,l4,l5,l6];exact⟨0,rfl,by simp only[true_iff];exact⟨ht,by omega,by omega,by omega,by omega,fun q=>absurd q hg,fun _=>ID,dd,by omega,by omega,by omega,by omega⟩,IA⟩
theorem afQ(Qk:∀h k n v (l:List Int),cm none 1 h v (l.map fun x:Int=>AV.int .u64 x)->(∀a,own v=some a->a<h.next)->(∀x∈l,kB x)->∃v' h',call 116 [.agg [.int .u8 k,.int .i64 n,v]] h=some (v',h')/\dg (cJ k n l) h v' h')
 {h:H} {c:aj} {v:AV} (hv:cm none 1 h v (c.aI.map fun x:Int=>AV.int .u64 x)) (dE:∀a,own v=some a->a<h.next) (fH:∀x∈c.aI,kB x):WF P call dp [.agg (au c v)] h (dg (fU c) h):=by
 by_cases hg:c.az=3
 ·exact RT P Qk hv dE fH hg
 ·exact RU P Qk hv dE fH hg
end
end Go.Proofs.YtgkjlklfjbljeaaGreat.CQ
