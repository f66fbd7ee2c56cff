/- Part of a proof that a law returns true for every input. No condition. -/
import Derived.Test.YtndfcecbamffaaaGreatDoorTb
import Derived.Test.YtndfcecbamffaaaGreatDoorFwL
import Derived.Test.YtndfcecbamffaaaGreatDoorFwT
import Derived.Test.YtndfcecbamffaaaGreatDoorFwRb
import Derived.Test.YtndfcecbamffaaaGreatDoorFwV
import Derived.Test.YtndfcecbamffaaaGreatDoorFwLr
import Derived.Test.YtndfcecbamffaaaGreatDoorP3
namespace Go.Proofs.YtndfcecbamffaaaGreatDoor
open List Option Go.IntKind Nat Or
open Go Go.cG Go.mY
set_option linter.unusedSimpArgs false
def aC (x:Int):j:=.int .i64 x
theorem gS (x:Int):(aC x).share=aC x:=by
 simp only[aC,dL]
theorem qA (x:Int):(aC x).b5=true:=by
 simp only[aC,j.b5,j.fU,Bool.and_self]
def hM (x:gw):j:=.agg [.int .i64 x.Kind,.int .i64 x.Value]
theorem K9 (x:gw):(hM x).share=hM x:=by
 simp only[hM,dL]
theorem abp (x:gw):(hM x).b5=true:=by
 simp only[hM,j.b5,j.fU,Bool.and_self]
def ht (x:acn):j:=.slice (x.map hM)
theorem K_ (x:acn):(ht x).share=ht x:=by
 simp only[ht,dL, @cP _ hM hM (λ_=>K9 _)]
def hc (x:iu):j:=.agg [.slice (x.aY.map aC),.slice (x.Guard.map hM),.str x.Name,.slice (x.bP.map ht),.slice (x.Next.map ht)]
theorem La (x:iu):(hc x).share=hc x:=by
 simp only[hc,dL, @cP _ aC aC (λ_=>gS _), @cP _ hM hM (λ_=>K9 _), @cP _ ht ht (λ_=>K_ _)]
def ku (x:lS):j:=.agg [.int .i64 x.dS,.slice (x.Start.map aC),.slice (x.cC.map hc)]
theorem abq (x:lS):(ku x).share=ku x:=by
 simp only[ku,dL, @cP _ aC aC (λ_=>gS _), @cP _ hc hc (λ_=>La _)]
def lk (x:acd):j:=.slice (x.map aC)
theorem T2 (x:acd):(lk x).share=lk x:=by
 simp only[lk,dL, @cP _ aC aC (λ_=>gS _)]
def ES (x:aco):j:=.slice (x.map hc)
theorem abr (x:aco):(ES x).share=ES x:=by
 simp only[ES,dL, @cP _ hc hc (λ_=>La _)]
def kT (x:aca):j:=.str x
theorem T3 (x:aca):(kT x).share=kT x:=by
 simp only[kT,dL]
theorem abt (x:aca):(kT x).b5=true:=by
 simp only[kT,j.b5,j.fU,Bool.and_self]
def ET (x:ack):j:=.slice (x.map ht)
theorem abu (x:ack):(ET x).share=ET x:=by
 simp only[ET,dL, @cP _ ht ht (λ_=>K_ _)]
def bA (x:aM):j:=.agg [.int .i64 x.Kind,.int .i64 x.Value]
theorem oK (x:aM):(bA x).share=bA x:=by
 simp only[bA,dL]
theorem Lb (x:aM):(bA x).b5=true:=by
 simp only[bA,j.b5,j.fU,Bool.and_self]
def b4 (x:acp):j:=.slice (x.map bA)
theorem rM (x:acp):(b4 x).share=b4 x:=by
 simp only[b4,dL, @cP _ bA bA (λ_=>oK _)]
def dq (x:bN):j:=.agg [.slice (x.aY.map aC),.slice (x.Guard.map bA),.str x.Name,.slice (x.bP.map b4),.slice (x.Next.map b4)]
theorem EU (x:bN):(dq x).share=dq x:=by
 simp only[dq,dL, @cP _ aC aC (λ_=>gS _), @cP _ bA bA (λ_=>oK _), @cP _ b4 b4 (λ_=>rM _)]
def h4 (x:acp):j:=.ao 2 (x.map bA)
theorem EV (x:acp):(h4 x).share=b4 x:=by
 simp only[h4,b4,dL, @cP _ bA bA (λ_=>oK _)]
theorem Lc (x:acp):(h4 x).b5=true:=by
 simp only[h4,j.b5,j.fU,Bool.and_self, @iP _ bA (λ_=>Lb _)]
def fs (x:bN):j:=.agg [.ao 1 (x.aY.map aC),.ao 2 (x.Guard.map bA),.str x.Name,.ao 1 (x.bP.map h4),.ao 1 (x.Next.map h4)]
theorem ts (x:bN):(fs x).share=dq x:=by
 simp only[fs,dq,dL, @cP _ aC aC (λ_=>gS _), @cP _ bA bA (λ_=>oK _), @cP _ h4 b4 (λ_=>EV _)]
theorem Ld (x:bN):(fs x).b5=true:=by
 simp only[fs,j.b5,j.fU,Bool.and_self, @iP _ aC (λ_=>qA _), @iP _ bA (λ_=>Lb _), @iP _ h4 (λ_=>Lc _)]
def AK (x:acd):j:=.ao 1 (x.map aC)
theorem abv (x:acd):(AK x).share=lk x:=by
 simp only[AK,lk,dL, @cP _ aC aC (λ_=>gS _)]
theorem abw (x:acd):(AK x).b5=true:=by
 simp only[AK,j.b5,j.fU,Bool.and_self, @iP _ aC (λ_=>qA _)]
def AL (x:acm):j:=.ao 1 (x.map h4)
def ll (x:acm):j:=.slice (x.map b4)
theorem T4 (x:acm):(ll x).share=ll x:=by
 simp only[ll,dL, @cP _ b4 b4 (λ_=>rM _)]
theorem abx (x:acm):(AL x).share=ll x:=by
 simp only[AL,ll,dL, @cP _ h4 b4 (λ_=>EV _)]
theorem aby (x:acm):(AL x).b5=true:=by
 simp only[AL,j.b5,j.fU,Bool.and_self, @iP _ h4 (λ_=>Lc _)]
def oL (x:ez):j:=.agg [.int .i64 x.dS,.ao 1 (x.Start.map aC),.ao 5 (x.cC.map fs)]
def fF (x:ez):j:=.agg [.int .i64 x.dS,.slice (x.Start.map aC),.slice (x.cC.map dq)]
theorem abz (x:ez):(fF x).share=fF x:=by
 simp only[fF,dL, @cP _ aC aC (λ_=>gS _), @cP _ dq dq (λ_=>EU _)]
theorem abA (x:ez):(oL x).share=fF x:=by
 simp only[oL,fF,dL, @cP _ aC aC (λ_=>gS _), @cP _ fs dq (λ_=>ts _)]
theorem abB (x:ez):(oL x).b5=true:=by
 simp only[oL,j.b5,j.fU,Bool.and_self, @iP _ aC (λ_=>qA _), @iP _ fs (λ_=>Ld _)]
def AM (x:acq):j:=.ao 5 (x.map fs)
def x0 (x:acq):j:=.slice (x.map dq)
theorem abC (x:acq):(x0 x).share=x0 x:=by
 simp only[x0,dL, @cP _ dq dq (λ_=>EU _)]
theorem abD (x:acq):(AM x).share=x0 x:=by
 simp only[AM,x0,dL, @cP _ fs dq (λ_=>ts _)]
theorem abE (x:acq):(AM x).b5=true:=by
 simp only[AM,j.b5,j.fU,Bool.and_self, @iP _ fs (λ_=>Ld _)]
def jZ (x:br):j:=.agg [.str x.Label,.slice (x.Next.map aC)]
theorem abF (x:br):(jZ x).share=jZ x:=by
 simp only[jZ,dL, @cP _ aC aC (λ_=>gS _)]
def ck (x:br):j:=.agg [.str x.Label,.ao 1 (x.Next.map aC)]
theorem x1 (x:br):(ck x).share=jZ x:=by
 simp only[ck,jZ,dL, @cP _ aC aC (λ_=>gS _)]
theorem vx (x:br):(ck x).b5=true:=by
 simp only[ck,j.b5,j.fU,Bool.and_self, @iP _ aC (λ_=>qA _)]
theorem EW:(∀a0 aa,(bY.mk a0 aa).term=a0)/\(∀a0 aa,(bY.mk a0 aa).args=aa):=⟨λ_ _=>rfl,λ_ _=>rfl⟩
mutual
def kv:bY->j
 | .mk a0 aa=>.agg [bA a0,.slice (n0 aa)]
def n0:List bY->acj
 |[]=>[]
 |y::r=>.ref (kv y)::n0 r
end
def gH (x:bY):j:=.ref (kv x)
theorem Le:∀l,n0 l=l.map gH
 |[]=>by simp only[n0,map_nil]
 |y::r=>by simp only[n0,map_cons,Le r,gH]
theorem EX (x:bY):kv x= .agg [bA x.term,.slice (x.args.map gH)]:=by
 cases x;simp only[kv,Le,bY.term,bY.args]
mutual
theorem Lf:∀x:bY,(kv x).share=kv x
 | .mk a0 aa=>by simp only[kv,dL,j.share,j.shares,Lg aa,oK]
theorem Lg:∀l:List bY,j.shares (n0 l)=n0 l
 |[]=>by simp only[n0,j.shares]
 |y::r=>by simp only[n0,j.shares,j.share,Lf y,Lg r]
end
theorem T5 (x:bY):(gH x).share=gH x:=by simp only[gH,j.share,Lf]
mutual
def rN:bY->j
 | .mk a0 aa=>.agg [bA a0,.ao 1 (oM aa)]
def oM:List bY->acj
 |[]=>[]
 |y::r=>.aV (rN y)::oM r
end
def hN (x:bY):j:=.aV (rN x)
theorem Lh:∀l,oM l=l.map hN
 |[]=>by simp only[oM,map_nil]
 |y::r=>by simp only[oM,map_cons,Lh r,hN]
theorem T6 (x:bY):rN x= .agg [bA x.term,.ao 1 (x.args.map hN)]:=by
 cases x;simp only[rN,Lh,bY.term,bY.args]
mutual
theorem Li:∀x:bY,(rN x).share=kv x
 | .mk a0 aa=>by simp only[rN,kv,dL,j.share,j.shares,Lj aa,oK]
theorem Lj:∀l:List bY,j.shares (oM l)=n0 l
 |[]=>by simp only[oM,n0,j.shares]
 |y::r=>by simp only[oM,n0,j.shares,j.share,Li y,Lj r]
end
theorem EY (x:bY):(hN x).share=gH x:=by simp only[hN,gH,j.share,Li]
mutual
theorem Lk:∀x:bY,(rN x).b5=true
 | .mk a0 aa=>by simp[rN,j.b5,j.fU,Ll aa,bA]
theorem Ll:∀l:List bY,j.fU (oM l)=true
 |[]=>by simp only[oM,j.fU]
 |y::r=>by simp only[oM,j.fU,j.b5,Lk y,Ll r,Bool.and_self]
end
theorem T7 (x:bY):(hN x).b5=true:=by simp only[hN,j.b5,Lk]
def AN (x:List bY):j:=.ao 1 (x.map hN)
def x2 (x:List bY):j:=.slice (x.map gH)
theorem abG (x:List bY):(x2 x).share=x2 x:=by
 simp only[x2,dL, @cP _ gH gH (λ_=>T5 _)]
theorem abH (x:List bY):(AN x).share=x2 x:=by
 simp only[AN,x2,dL, @cP _ hN gH (λ_=>EY _)]
theorem abI (x:List bY):(AN x).b5=true:=by
 simp only[AN,j.b5,j.fU,Bool.and_self, @iP _ hN (λ_=>T7 _)]
noncomputable def oN:aI:=cF (cE 12 [0] Tryz.f16 [[0,1],[1],[1,10],[4],[4]])
noncomputable def T8:aI:=cF (cE 12 [0] Tryz.f54 [[0,1],[1],[1,10],[4],[4]])
noncomputable def T9:aI:=cF (cE 27 [0] Tryz.f55 [[0,1],[0,1],[0,1,11],[4],[0,1,5],[0,1,5,15],[0,1,5],[0,1,5,25],[4],[0,1,5],[4]])
noncomputable def T_:aI:=cF (cE 37 [0] Tryz.f30 [[1,2],[1,2],[1,2,10],[4],[1,2],[1,2,16],[4],[1,2],[1,2,23],[4],[1,2],[1,2,29],[4],[1],[1,35],[4],[4]])
noncomputable def Ua:aI:=cF (cE 27 [0] Tryz.f17 [[0,1],[0,1],[0,1,11],[4],[0,1,5],[0,1,5,15],[0,1,5],[0,1,5,25],[4],[0,1,5],[4]])
noncomputable def hz:aI:=cF (cE 18 [0] Tryz.f4 [[1,2],[1,2],[1,2,10],[4],[1],[1,16],[4],[4]])
noncomputable def ph:aI:=cF (cE 22 [0] Tryz.f7 [[0],[0,3],[0,3,4],[0,3,4,11],[0,3,4],[0,3,4],[2]])
noncomputable def Ub:aI:=cF (cE 11 [0] Tryz.f91 [[1,2],[1,2,3],[1,2,3],[2,3],[2]])
noncomputable def Uc:aI:=cF (cE 23 [0] Tryz.f62 [[0],[0,3],[0,3,4],[0,3,4,11],[0,3,4],[0,3,4],[2]])
noncomputable def Ud:aI:=cF (cE 23 [0] Tryz.f63 [[0],[0,3],[0,3,4],[0,3,4,11],[0,3,4],[0,3,4],[2]])
noncomputable def Ue:aI:=cF (cE 24 [0] Tryz.f40 [[1,2],[1,2,3],[1,2,3],[1,2,3],[1,2,3],[1,2,3],[2,3],[2]])
noncomputable def Uf:aI:=cF (cE 23 [0] Tryz.f21 [[0],[0,3],[0,3,4],[0,3,4,11],[0,3,4],[0,3,4],[2]])
noncomputable def e_:aI:=cF (cE 16 [0] Tryz.f6 [[1,2],[1,2,3],[1,2,3],[1,2,3],[2,3],[2]])
noncomputable def Ug:aI:=cF (cE 15 [0,1,2] Tryz.f31 [[0,1,2],[6]])
noncomputable def x3:aI:=cF (cE 16 [0] Tryz.f33 [[0],[0,3],[0,3,7],[0,3,15],[2],[0,3],[2]])
noncomputable def Uh:aI:=cF (cE 13 [0,1] Tryz.f19 [[0,1],[4]])
noncomputable def Ui:aI:=cF (cE 30 [0] Tryz.f56 [[0],[0,7],[2],[0,3],[0,3,4],[0,3,4,11],[0,3,4,19],[2],[0,3,4],[0,3,4],[3,28],[2],[2]])
noncomputable def Uj:aI:=cF (cE 39 [0,1] Tryz.f84 [[0,1],[0,1,8],[0,1,8,9],[4],[0,1,8,16],[4],[0,8,25],[4],[0,32],[4],[4]])
noncomputable def Uk:aI:=cF (cE 11 [0] Tryz.f85 [[0],[6],[6,7],[2],[9],[2],[2]])
noncomputable def Ul:aI:=cF (cE 38 [0,1,2] Tryz.f57 [[0,1,2],[0,1,12],[6],[0,1,7],[0,1,7,8],[0,1,7,8,16],[0,1,7,8,28],[6],[0,1,7,8],[0,1,7,8],[6]])
noncomputable def Um:aI:=cF (cE 19 [0,1] Tryz.f59 [[0,1],[0,1,5],[0,1,5,9],[0,1,5,18],[4],[0,1,5],[4]])
noncomputable def Un:aI:=cF (cE 9 [0] Tryz.f107 [[0],[2]])
noncomputable def Uo:aI:=cF (cE 9 [0] Tryz.f108 [[0],[2]])
noncomputable def Up:aI:=cF (cE 35 [0] Tryz.f86 [[0],[0,16],[2],[0,3],[0,3,20],[0,3,34],[2],[0,3],[2]])
def ca (r:List bn) (k:ace) (c:aI):aI:=.seq (.dJ r (some k)) c
def EZ (r:List bn) (a:acb) (k:ace) (c:aI):aI:=.seq (.iZ r a (some k)) c
abbrev fl (d t:Nat) (o:de):bn:=⟨some d,o,some (t,true)⟩
abbrev eS (d t:Nat) (o:de):bn:=⟨some d,o,some (t,false)⟩
abbrev abJ (n:Nat) (k:ace) (f:Func) (c:aI):Prop:=eI ⟨n,k⟩ (f.body.getD .skip)=some c.strip
def Uq:aI:=ca [lg 2 false] [0] (ca [bF 3 0,mx 4 86 3,bF 5 4,fl 6 5 (.gm (.t 0)),⟨some 7,.dI .neq 9 (.t 6) (.c (.str [116,97,117])),some (5,true)⟩,ro 8 (.pick (.t 5) (.t 7) (.c (.bool false))),dA 2 8] [2] .ret)
def Ur:aI:=.seq (ca [bF 35 0,mW 36 35,hC 37 68 36 2,eW 38 9 37,ro 39 (.dI .eql 9 (.t 38) (.c (.str [116,97,117]))),bF 40 39,fl 41 40 (.gm (.t 0)),fl 42 40 (.ig (.t 41)),fl 43 40 (.gB 68 (.t 42) 3),fl 44 40 (.dU 66 (.t 43)),fl 45 40 (.len 66 (.t 44)),fl 46 40 (.dI .gtr 3 (.t 45) (.c (.int .i64 0))),ro 47 (.pick (.t 40) (.t 46) (.c (.bool false))),bF 48 47,eS 49 48 (.gm (.t 0)),eS 50 48 (.ig (.t 49)),eS 51 48 (.gB 68 (.t 50) 2),eS 52 48 (.dU 9 (.t 51)),⟨some 53,.dI .neq 9 (.t 52) (.c (.str [116,97,117])),some (48,false)⟩,eS 54 48 (.gm (.t 53)),fl 55 54 (.gm (.t 0)),fl 56 54 (.ig (.t 55)),fl 57 54 (.gB 68 (.t 56) 2),fl 58 54 (.dU 9 (.t 57)),⟨some 59,.call (.f 58) [(.t 58)],some (54,true)⟩,fl 60 54 (.un .not (.t 59)),eS 61 48 (.pick (.t 54) (.t 60) (.c (.bool false))),ro 62 (.pick (.t 48) (.c (.bool true)) (.t 61)),bF 63 62,eS 64 63 (.gm (.t 0)),eS 65 63 (.ig (.t 64)),eS 66 63 (.gB 68 (.t 65) 3),eS 67 63 (.dU 66 (.t 66)),eS 68 63 (.len 66 (.t 67)),eS 69 63 (.dI .gtr 3 (.t 68) (.c (.int .i64 2))),ro 70 (.pick (.t 63) (.c (.bool true)) (.t 69))] [0,5,70] (.cond (.t 70) (ca [lg 4 false] [4] .ret) .skip)) (ca [bF 71 0,mW 72 71,hC 73 68 72 3,eW 74 66 73,bF 75 5,nU 76 59 74 75,bF 77 76,fl 78 77 (.gm (.t 0)),fl 79 77 (.ig (.t 78)),fl 80 77 (.gB 68 (.t 79) 4),fl 81 77 (.dU 66 (.t 80)),fl 82 77 (.gm (.t 5)),⟨some 83,.call (.f 59) [(.t 81),(.t 82)],some (77,true)⟩,ro 84 (.pick (.t 77) (.t 83) (.c (.bool false))),dA 4 84] [4] .ret)
def Us:aI:=ca [bF 12 1,bF 13 0,mW 14 13,hC 15 68 14 0,eW 16 22 15,kg 17 22 16,mw 18 .add 2 12 17,dA 5 18] [0,1,5] (.seq (ca [bF 19 0,mW 20 19,hC 21 68 20 1,eW 22 65 21,bF 23 5,ro 24 (.call (.f 57) [(.t 22),(.t 23),(.c (.int .i64 60))]),sW 25 24,bF 26 25,eS 27 26 (.gm (.t 0)),eS 28 26 (.ig (.t 27)),eS 29 26 (.gB 68 (.t 28) 4),eS 30 26 (.dU 66 (.t 29)),eS 31 26 (.len 66 (.t 30)),eS 32 26 (.gm (.t 1)),eS 33 26 (.dI .neq 2 (.t 31) (.t 32)),ro 34 (.pick (.t 26) (.c (.bool true)) (.t 33))] [0,5,34] (.cond (.t 34) (ca [lg 4 false] [4] .ret) .skip)) Ur)
def Ut:aI:=ca [lg 4 false] [0,1] (.seq (ca [bF 6 0,mW 7 6,hC 8 68 7 0,eW 9 22 8,mx 10 56 9,gf 11 .eql 2 10 0] [0,1,11] (.cond (.t 11) (ca [lg 4 false] [4] .ret) .skip)) Us)
noncomputable def Uu:aI:=cF (cE 51 [0] Tryz.f18 [[0],[0,29],[2],[0,3],[0,3,36],[0,3,50],[2],[0,3],[2]])
noncomputable def Uv:aI:=cF (cE 6 [0] Tryz.f34 [[0],[2]])
noncomputable def Uw:aI:=cF (cE 4 [0] Tryz.f87 [[0],[3],[2],[2]])
noncomputable def Ux:aI:=cF (cE 18 [0] Tryz.f88 [[0,1],[0,1,5],[0,1,5,7],[0,1,5],[0,1,5],[4]])
noncomputable def Uy:aI:=cF (cE 67 [0,1,2] Tryz.f89 [[0,1,2],[1,2,7],[1,2,7,8],[6],[1,2,7,14],[6],[1,2,7,21],[6],[1,2,7,27],[6],[1,2,7,33],[6],[1,2,7,39],[6],[1,2,7,45],[6],[1,2,51],[6],[6]])
noncomputable def Uz:aI:=cF (cE 60 [0,1,2] Tryz.f60 [[0,1,2],[0,1,2,13],[0,1,2,13,14],[6],[0,1,2,13,21],[6],[0,1,2,31],[6],[0,1,2,7],[0,2,7,8],[6]])
noncomputable def UA:aI:=cF (cE 8 [0,1] Tryz.f35 [[0,1],[4]])
noncomputable def UB:aI:=cF (cE 24 [0,1] Tryz.f37 [[0,1],[0,1,5],[0,1,5,6],[0,1,5,6,11],[0,1,5,6],[0,1,5,6],[4]])
def Lm:aI:=.dJ [bF 22 3,bF 23 5,ro 24 (.dI .add 2 (.c (.int .i64 48)) (.t 23)),zA 25 2 5 24,xf 26 85 25,sX 27 85 85 22 26,dA 3 27] (some [0,3,4])
def Ln:aI:=.seq (ca [bF 12 4,gf 13 .neq 2 12 0] [0,3,4,13] (.cond (.t 13) .skip (.exit 0))) (.seq (.block 1 (ca [bF 16 4,gf 17 .rem 2 16 10,dA 5 17] [0,3,4,5] (.seq (ca [bF 18 5,gf 19 .lss 2 18 0] [0,3,4,5,19] (.cond (.t 19) (.dJ [bF 20 5,ro 21 (.un .neg (.t 20)),dA 5 21] (some [0,3,4,5])) .skip)) Lm))) (.dJ [bF 14 4,gf 15 .quo 2 14 10,dA 4 15] (some [0,3,4])))
def Lo:aI:=.seq (ca [bF 37 7,gf 38 .geq 3 37 0] [3,6,7,38] (.cond (.t 38) .skip (.exit 2))) (.seq (.block 3 (.dJ [bF 41 6,bF 42 3,bF 43 7,sV 44 85 42 43,eW 45 5 44,xf 46 85 45,sX 47 85 85 41 46,dA 6 47] (some [3,6,7]))) (.dJ [bF 39 7,gf 40 .sub 3 39 1,dA 7 40] (some [3,6,7])))
def Lp:aI:=ca [ro 33 (.eD 85 0 []),dA 6 33] [3,6] (.seq (ca [bF 34 3,kg 35 85 34,gf 36 .sub 3 35 1,dA 7 36] [3,6,7] (.block 2 (.loop Lo))) (ca [bF 48 6,zA 49 85 9 48,dA 2 49] [2] .ret))
def UC:aI:=ca [ro 2 (.il (.c (.str [])))] [0] (.seq (ca [bF 8 0,gf 9 .eql 2 8 0] [0,9] (.cond (.t 9) (ca [ro 2 (.il (.c (.str [48])))] [2] .ret) .skip)) (ca [ro 10 (.eD 85 0 []),dA 3 10] [0,3] (.seq (ca [bF 11 0,dA 4 11] [0,3,4] (.block 0 (.loop Ln))) (.seq (ca [bF 28 0,gf 29 .lss 2 28 0] [3,29] (.cond (.t 29) (.dJ [bF 30 3,ro 31 (.eD 85 1 [(0,(.c (.int .u8 45)))]),sX 32 85 85 30 31,dA 3 32] (some [3])) .skip)) Lp))))
def Lq:aI:=.dJ [bF 18 3,bF 19 0,bF 20 4,sV 21 22 19 20,eW 22 2 21,mx 23 90 22,mw 24 .add 9 18 23,dA 3 24] (some [0,3,4])
def Lr:aI:=.seq (ca [bF 8 4,bF 9 0,kg 10 22 9,mw 11 .lss 3 8 10] [0,3,4,11] (.cond (.t 11) .skip (.exit 0))) (.seq (.block 1 (.seq (ca [bF 14 4,gf 15 .gtr 3 14 0] [0,3,4,15] (.cond (.t 15) (.dJ [bF 16 3,ro 17 (.dI .add 9 (.t 16) (.c (.str [44]))),dA 3 17] (some [0,3,4])) .skip)) Lq)) (.dJ [bF 12 4,gf 13 .add 3 12 1,dA 4 13] (some [0,3,4])))
def UD:aI:=ca [ro 2 (.il (.c (.str [])))] [0] (.seq (ca [bF 5 0,kg 6 22 5,gf 7 .eql 3 6 0] [0,7] (.cond (.t 7) (ca [ro 2 (.il (.c (.str [45])))] [2] .ret) .skip)) (ca [ro 3 (.il (.c (.str [])))] [0,3] (.seq (ca [zz 4 0] [0,3,4] (.block 0 (.loop Lr))) (ca [bF 25 3,dA 2 25] [2] .ret))))
def UE:aI:=ca [ro 4 (.il (.c (.str [])))] [0,1] (.seq (ca [bF 5 1,kg 6 22 5,gf 7 .eql 3 6 0] [0,1,7] (.cond (.t 7) (ca [bF 8 0,dA 4 8] [4] .ret) .skip)) (ca [bF 9 0,ro 10 (.dI .add 9 (.t 9) (.c (.str [40]))),bF 11 1,mx 12 61 11,mw 13 .add 9 10 12,ro 14 (.dI .add 9 (.t 13) (.c (.str [41]))),dA 4 14] [4] .ret))
noncomputable def UF:aI:=cF (cE 31 [0,1] Tryz.f39 [[0,1],[0,1,5],[0,1,5,10],[0,1,5,21],[0],[0,4],[0,1,5],[0,1,5],[0,4]])
noncomputable def UG:aI:=cF (cE 26 [0,1] Tryz.f38 [[0,1],[0,1,10],[4],[0,1,5],[0,1,5,14],[0,1,5,25],[4],[0,1,5],[4]])
def UH:aI:=.cond (.t 20) .skip (.exit 0)
def UI:aI:=.cond (.t 67) .skip (.exit 4)
def UJ:aI:=.dJ [bF 68 12,gf 69 .add 3 68 1,dA 12 69] (some [0,1,5,6,7,8,10,11,12])
def UK:aI:=.seq (.block 5 (.iZ [bF 70 11,bF 71 70,eS 72 71 (.gm (.t 5)),eS 73 71 (.gm (.t 12)),eS 74 71 (.hT 27 (.t 72) (.t 73)),eS 75 71 (.gB 53 (.t 74) 0),eS 76 71 (.dU 9 (.t 75)),eS 77 71 (.gB 53 (.t 10) 0),eS 78 71 (.dU 9 (.t 77)),eS 79 71 (.dI .eql 9 (.t 76) (.t 78)),eS 80 71 (.gm (.t 79)),fl 81 80 (.gm (.t 5)),fl 82 80 (.gm (.t 12)),fl 83 80 (.hT 27 (.t 81) (.t 82)),fl 84 80 (.gB 53 (.t 83) 1),fl 85 80 (.dU 22 (.t 84)),fl 86 80 (.gB 53 (.t 10) 1),fl 87 80 (.dU 22 (.t 86)),⟨some 88,.call (.f 38) [(.t 85),(.t 87)],some (80,true)⟩,eS 89 71 (.pick (.t 80) (.t 88) (.c (.bool false))),ro 90 (.pick (.t 71) (.c (.bool true)) (.t 89)),dA 11 90] [[],[0],[1],[1],[2,3,1],[4,1],[5,1],[1],[7,1],[6,8,1],[9,1,1],[10],[10],[11,12,10],[13,10],[14,10],[10],[16,10],[15,17,10,10],[10,18,1],[1,19],[20,18,0,1,2,3,4,5,6,7,8,9,10,11,12,13,14,15,16,17,18,19,20]] (some [0,1,5,6,7,8,10,11,12]))) UJ
def Ls:aI:=.seq (ca [bF 64 12,bF 65 5,kg 66 27 65,mw 67 .lss 3 64 66] [0,1,5,6,7,8,10,11,12,67] UI) UK
def UL:aI:=.block 4 (.loop Ls)
def UM:aI:=.dJ [bF 93 5,eW 94 53 10,xf 95 27 94,sX 96 27 27 93 95,dA 5 96] (some [0,1,5,6,7,8])
def UN:aI:=.cond (.t 92) UM .skip
def UO:aI:=ca [bF 91 11,sW 92 91] [0,1,5,6,7,8,10,92] UN
def UP:aI:=.seq (ca [zz 12 0] [0,1,5,6,7,8,10,11,12] UL) UO
def UQ:aI:=ca [lg 11 false] [0,1,5,6,7,8,10,11] UP
def UR:aI:=EZ [bF 46 7,mW 47 46,hC 48 68 47 2,eW 49 9 48,bF 50 7,mW 51 50,hC 52 68 51 3,eW 53 66 52,bF 54 9,nU 55 37 53 54,nU 56 36 49 55,bF 57 7,mW 58 57,hC 59 68 58 4,eW 60 66 59,bF 61 9,nU 62 37 60 61,ro 63 (.hi 53 [(0,(.t 56)),(1,(.t 62))]),uL 10 53,sY 53 10 63] [[],[0],[1],[2],[],[4],[5],[6],[],[7,8],[3,9,9],[],[11],[12],[13],[],[14,15,10],[10,16],[],[18,17,16,0,1,2,3,4,5,6,7,8,9,10,11,12,13,14,15,16,17,18]] [0,1,5,6,7,8,10] UQ
def US:aI:=.cond (.t 45) UR .skip
def UT:aI:=.cond (.t 103) (.exit 2) .skip
def Lt:aI:=ca [bF 97 8,bF 98 7,mW 99 98,hC 100 68 99 0,eW 101 22 100,nU 102 39 97 101,sW 103 102] [0,1,5,6,7,8,103] UT
def UU:aI:=.seq (ca [bF 39 7,mW 40 39,hC 41 68 40 1,eW 42 65 41,bF 43 9,nU 44 35 42 43,gf 45 .neq 2 44 0] [0,1,5,6,7,8,9,45] US) Lt
def Lu:aI:=.block 3 (.seq (.fM (uU ay [bF 35 1,mx 36 34 35,bF 37 8,sX 38 22 22 36 37,dA 9 38] 9 [0,1,5,6,7,8,9]) (DG [bF 35 1,mx 36 34 35,bF 37 8,sX 38 22 22 36 37,dA 9 38])) UU)
def UW:aI:=.block 2 (.loop Lu)
def UX:aI:=ca [bF 29 7,mW 30 29,hC 31 68 30 0,eW 32 22 31,kg 33 22 32,ro 34 (.dZ 22 (.t 33) (.t 33)),dA 8 34] [0,1,5,6,7,8] UW
def UY:aI:=.dJ [bF 21 6,gf 22 .add 3 21 1,dA 6 22] (some [0,1,5,6])
def UZ:aI:=.seq (.block 1 (ca [bF 23 0,mW 24 23,hC 25 32 24 2,eW 26 30 25,bF 27 6,sV 28 30 26 27,dA 7 28] [0,1,5,6,7] UX)) UY
def Lv:aI:=.seq (ca [bF 14 6,bF 15 0,mW 16 15,hC 17 32 16 2,eW 18 30 17,kg 19 30 18,mw 20 .lss 3 14 19] [0,1,5,6,20] UH) UZ
def U0:aI:=.block 0 (.loop Lv)
def U1:aI:=ca [bF 104 5,dA 4 104] [4] .ret
def U2:aI:=.seq (ca [zz 6 0] [0,1,5,6] U0) U1
def U3:aI:=ca [ro 13 (.eD 27 0 []),dA 5 13] [0,1,5] U2
def Lw:aI:=ca [xe 4] [0,1] U3
theorem U4:Lw.kc (s3 ay):=And.intro (True.intro) (And.intro (True.intro) (And.intro (And.intro (True.intro) (And.intro (And.intro (True.intro) (And.intro (True.intro) (True.intro))) (And.intro (And.intro (True.intro) (And.intro (True.intro) (And.intro (⟨_,_,_,rfl,rfl⟩) (And.intro (And.intro (True.intro) (And.intro (And.intro (True.intro) (And.intro (True.intro) (And.intro (And.intro (True.intro) (And.intro (And.intro (True.intro) (And.intro (True.intro) (True.intro))) (And.intro (True.intro) (True.intro)))) (And.intro (True.intro) (And.intro (True.intro) (True.intro)))))) (True.intro))) (And.intro (True.intro) (And.intro (True.intro) (True.intro))))))) (True.intro)))) (And.intro (True.intro) (True.intro))))
theorem U5:eI ⟨105,[0,1]⟩ (Tryz.f20.body.getD .skip)=some Lw.strip:=by kernel_rfl
noncomputable def ka:aI:=cF (cE 15 [0,1] Tryz.f5 [[1,2],[1,2,7],[4,5],[1,2,12],[4,5],[4,5]])
noncomputable def U6:aI:=cF (cE 15 [0,1,2] Tryz.f41 [[0,1,2],[6]])
noncomputable def U7:aI:=cF (cE 5 [0] Tryz.f73 [[0],[2]])
noncomputable def U8:aI:=cF (cE 6 [0] Tryz.f72 [[0],[2]])
noncomputable def U9:aI:=cF (cE 19 [0,1] Tryz.f97 [[0,1],[0,1,7,8],[0,1,7,8,9],[0,1,5,7,8],[0,1,5,7,8,16],[4],[0,1,7,8],[4]])
noncomputable def U_:aI:=cF (cE 9 [0,1] Tryz.f71 [[0,1],[4]])
noncomputable def Va:aI:=cF (cE 6 [0] Tryz.f45 [[0],[2]])
noncomputable def Vb:aI:=cF (cE 14 [0,1] Tryz.f23 [[1,2],[4]])
noncomputable def Vc:aI:=cF (cE 29 [0] Tryz.f65 [[1],[1,3],[1,3,7,8,9],[1,3,7,8,9,10],[1,3,5,7,8,9],[1,3,5,7,8,9,15],[2],[1,3,7,8,9],[1,3,7,8,9],[2]])
noncomputable def Vd:aI:=cF (cE 9 [0] Tryz.f109 [[0],[2]])
noncomputable def Ve:aI:=cF (cE 42 [0] Tryz.f92 [[0],[0,6,7],[0,6,7,8],[0,3,6,7],[0,3,4,6,7],[0,6,7,32],[2],[0,6,7],[2]])
def Vf:aI:=ca [lg 2 false] [0] (ca [bF 3 0,mx 4 92 3,bF 5 4,fl 6 5 (.gm (.t 0)),⟨some 7,.dI .neq 9 (.t 6) (.c (.str [116,97,117])),some (5,true)⟩,ro 8 (.pick (.t 5) (.t 7) (.c (.bool false))),dA 2 8] [2] .ret)
def Lx:aI:=ca [bF 26 0,dA 4 26] [4] .ret
def Ly:aI:=.seq (ca [bF 8 1,bF 9 0,ro 10 (.cap 66 (.t 9)),bF 11 0,kg 12 66 11,mw 13 .sub 3 10 12,mw 14 .sub 3 8 13,dA 1 14] [0,1] (ca [bF 15 1,gf 16 .gtr 3 15 0] [0,1,16] (.cond (.t 16) (.dJ [bF 17 0,bF 18 0,ro 19 (.cap 66 (.t 18)),ro 20 (.e9 66 (.t 17) none (some (.t 19))),bF 21 1,⟨some 22,.hI 66 3 (.t 20) (.t 21),none⟩,bF 23 0,kg 24 66 23,ro 25 (.e9 66 (.t 22) none (some (.t 24))),dA 0 25] (some [0])) .skip))) Lx
def Vg:aI:=ca [xe 4] [0,1] (.seq (ca [bF 5 1,gf 6 .lss 3 5 0] [0,1,6] (.cond (.t 6) (.dJ [ro 7 (.bad),⟨none,.bad,none⟩] (some [0,1])) .skip)) Ly)
noncomputable def Vh:aI:=cF (cE 36 [0] Tryz.f94 [[0],[0,3],[0,3,9,10,11],[0,3,9,10,11,12],[0,3,5,9,10,11],[0,3,9,10,11],[0,3,9,10,11,20],[0,3,9,10,11],[0,3,9,10,11],[0,6],[6,25,26,27],[6,25,26,27,28],[6,8,25,26,27],[6,25,26,27],[6,25,26,27],[2]])
def Vi:aI:=ca [ro 1 (.hj 68 (.t 0)),xe 2] [1] (ca [hC 3 68 1 1,eW 4 65 3,⟨some 5,.shr (.eD 66 1 [(0,(.t 4))]),none⟩,hC 6 68 1 3,eW 7 66 6,hC 8 68 1 4,eW 9 66 8,⟨some 10,.shr (.eD 144 3 [(0,(.t 5)),(1,(.t 7)),(2,(.t 9))]),none⟩,mx 11 94 10,dA 2 11] [2] .ret)
noncomputable def Vj:aI:=cF (cE 29 [0,1] Tryz.f95 [[1,2],[1,2,6],[1,2,6,7],[4],[1,2,6,12],[4],[2,6,19],[4],[2,24],[4],[4]])
noncomputable def Vk:aI:=cF (cE 9 [0] Tryz.f96 [[1],[4],[4,5],[2],[7],[2],[2]])
noncomputable def Vl:aI:=cF (cE 47 [0,1,2] Tryz.f70 [[0,1,2],[0,1,24],[6],[0,1,7],[1,7,25,26,27],[1,7,25,26,27,28],[1,7,9,25,26,27],[1,7,9,25,26,27,38],[6],[1,7,25,26,27],[1,7,25,26,27],[6]])
noncomputable def Vm:aI:=cF (cE 13 [0,1,2] Tryz.f69 [[0,1,2],[4]])
noncomputable def Vn:aI:=cF (cE 19 [0,1] Tryz.f93 [[0,1],[0,1,7,8],[0,1,7,8,9],[0,1,5,7,8],[0,1,5,7,8,16],[4],[0,1,7,8],[4]])
noncomputable def Vo:aI:=cF (cE 9 [0,1] Tryz.f67 [[0,1],[4]])
def Vp:aI:=ca [bF 19 5,gf 20 .gtr 3 19 0,bF 21 20,fl 22 21 (.gB 68 (.t 2) 2),fl 23 21 (.dU 9 (.t 22)),⟨some 24,.dI .eql 9 (.t 23) (.c (.str [116,97,117])),some (21,true)⟩,fl 25 21 (.gm (.t 24)),eS 26 25 (.gm (.t 5)),eS 27 25 (.dI .gtr 3 (.t 26) (.c (.int .i64 2))),fl 28 21 (.pick (.t 25) (.c (.bool true)) (.t 27)),ro 29 (.pick (.t 21) (.t 28) (.c (.bool false))),bF 30 29,eS 31 30 (.gB 68 (.t 2) 2),eS 32 30 (.dU 9 (.t 31)),⟨some 33,.dI .neq 9 (.t 32) (.c (.str [116,97,117])),some (30,false)⟩,eS 34 30 (.gm (.t 33)),fl 35 34 (.gB 68 (.t 2) 2),fl 36 34 (.dU 9 (.t 35)),⟨some 37,.call (.f 66) [(.t 36)],some (34,true)⟩,fl 38 34 (.un .not (.t 37)),eS 39 30 (.pick (.t 34) (.t 38) (.c (.bool false))),ro 40 (.pick (.t 30) (.c (.bool true)) (.t 39))] [2,3,40] (.cond (.t 40) (ca [lg 4 false] [4] .ret) .skip)
def Vq:aI:=ca [ro 2 (.hj 68 (.t 0)),ro 3 (.hj 2 (.t 1)),lg 4 false] [2,3] (.seq (ca [eW 6 68 2,mx 7 65 6,sW 8 7,bF 9 8,eS 10 9 (.gB 68 (.t 2) 4),eS 11 9 (.dU 66 (.t 10)),eS 12 9 (.len 66 (.t 11)),eS 13 9 (.dU 2 (.t 3)),eS 14 9 (.dI .neq 2 (.t 12) (.t 13)),ro 15 (.pick (.t 9) (.c (.bool true)) (.t 14))] [2,3,15] (.cond (.t 15) (ca [lg 4 false] [4] .ret) .skip)) (.seq (ca [hC 16 68 2 3,eW 17 66 16,kg 18 66 17,dA 5 18] [2,3,5] Vp) (ca [eW 41 68 2,mx 42 68 41,ro 43 (.mO 69 [(.t 3),(.t 2)]),nU 44 67 42 43,sW 45 44,dA 4 45] [4] .ret)))
noncomputable def Vr:aI:=cF (cE 9 [0,1] Tryz.f43 [[1,2],[3]])
noncomputable def Vs:aI:=cF (cE 19 [0,1] Tryz.f64 [[0,1],[0,1,7,8],[0,1,7,8,9],[0,1,5,7,8],[0,1,5,7,8,16],[4],[0,1,7,8],[4]])
noncomputable def Vt:aI:=cF (cE 9 [0,1] Tryz.f42 [[0,1],[4]])
noncomputable def Vu:aI:=cF (cE 25 [0] Tryz.f22 [[1],[1,19],[2],[2]])
noncomputable def Vv:aI:=cF (cE 38 [0] Tryz.f98 [[0],[0,4],[0,4,5],[4,5,17,18],[4,5,17,18,19],[4,5,17,18],[4,5,6,17,18],[4,5,17,18],[4,5,17,18],[2,3]])
noncomputable def Vw:aI:=cF (cE 11 [0] Tryz.f74 [[0],[3],[2]])
def Lz:aI:=ca [bF 26 0,dA 4 26] [4] .ret
def LA:aI:=.seq (ca [bF 8 1,bF 9 0,ro 10 (.cap 22 (.t 9)),bF 11 0,kg 12 22 11,mw 13 .sub 3 10 12,mw 14 .sub 3 8 13,dA 1 14] [0,1] (ca [bF 15 1,gf 16 .gtr 3 15 0] [0,1,16] (.cond (.t 16) (.dJ [bF 17 0,bF 18 0,ro 19 (.cap 22 (.t 18)),ro 20 (.e9 22 (.t 17) none (some (.t 19))),bF 21 1,⟨some 22,.hI 22 3 (.t 20) (.t 21),none⟩,bF 23 0,kg 24 22 23,ro 25 (.e9 22 (.t 22) none (some (.t 24))),dA 0 25] (some [0])) .skip))) Lz
def Vx:aI:=ca [xe 4] [0,1] (.seq (ca [bF 5 1,gf 6 .lss 3 5 0] [0,1,6] (.cond (.t 6) (.dJ [ro 7 (.bad),⟨none,.bad,none⟩] (some [0,1])) .skip)) LA)
noncomputable def Vy:aI:=cF (cE 36 [0] Tryz.f77 [[0],[0,3],[0,3,9,10,11],[0,3,9,10,11,12],[0,3,5,9,10,11],[0,3,9,10,11],[0,3,9,10,11,20],[0,3,9,10,11],[0,3,9,10,11],[0,6],[6,25,26,27],[6,25,26,27,28],[6,8,25,26,27],[6,25,26,27],[6,25,26,27],[2]])
noncomputable def Vz:aI:=cF (cE 4 [0] Tryz.f100 [[0],[3],[2],[2]])
noncomputable def VA:aI:=cF (cE 67 [0,1,2] Tryz.f101 [[0,1,2],[1,2,7],[1,2,7,8],[6],[1,2,7,14],[6],[1,2,7,21],[6],[1,2,7,27],[6],[1,2,7,33],[6],[1,2,7,39],[6],[1,2,7,45],[6],[1,2,51],[6],[6]])
noncomputable def VB:aI:=cF (cE 61 [0,1] Tryz.f78 [[0,1],[0,1,9],[0,1,9,10],[4],[0,1,9,17],[4],[0,1,27],[4],[4]])
noncomputable def VC:aI:=cF (cE 9 [0,1] Tryz.f79 [[0,1],[4]])
noncomputable def VD:aI:=cF (cE 22 [0,1] Tryz.f49 [[0,1],[0,1,5],[1,5,8,9,10],[1,5,8,9,10,11],[1,5,7,8,9,10],[1,5,8,9,10],[1,5,8,9,10],[4]])
noncomputable def VE:aI:=cF (cE 5 [0] Tryz.f80 [[0],[2]])
noncomputable def VF:aI:=cF (cE 27 [0,1] Tryz.f50 [[0,1],[0,1,5],[1,5,11,12,13],[1,5,11,12,13,14],[1,5,6,7,11,12,13],[1,5,11,12,13],[1,5,11,12,13],[4]])
def VG:aI:=ca [bF 13 0,mx 14 66 13,sW 15 14,bF 16 15,eS 17 16 (.gm (.t 1)),eS 18 16 (.len 22 (.t 17)),eS 19 16 (.dI .gtr 3 (.t 18) (.c (.int .i64 2))),ro 20 (.pick (.t 16) (.c (.bool true)) (.t 19)),bF 21 20,eS 22 21 (.gm (.t 1)),⟨some 23,.call (.f 45) [(.t 22)],some (21,false)⟩,eS 24 21 (.un .not (.t 23)),ro 25 (.pick (.t 21) (.c (.bool true)) (.t 24)),dA 12 25] [0,1,12] (.cond (.t 12) (ca [ro 4 (.il (.c (.str []))),lg 5 false] [4,5] .ret) (ca [bF 27 1,kg 28 22 27,gf 29 .eql 3 28 0,dA 26 29] [0,1,26] (.cond (.t 26) (ca [bF 30 0,dA 4 30,lg 5 true] [4,5] .ret) .skip)))
def VH:aI:=ca [ro 4 (.il (.c (.str []))),lg 5 false] [0,1] (.seq (.block 0 (ca [bF 7 0,ro 8 (.dI .eql 9 (.t 7) (.c (.str [116,97,117]))),dA 6 8] [0,1,6] (.cond (.t 6) (ca [bF 9 1,kg 10 22 9,gf 11 .eql 3 10 0,ro 4 (.il (.c (.str [116,97,117]))),dA 5 11] [4,5] .ret) VG))) (ca [bF 31 0,ro 32 (.dI .add 9 (.t 31) (.c (.str [40]))),bF 33 1,ro 34 (.call (.f 50) [(.t 33),(.c (.str [44]))]),mw 35 .add 9 32 34,ro 36 (.dI .add 9 (.t 35) (.c (.str [41]))),dA 4 36,lg 5 true] [4,5] .ret))
def VI:aI:=ca [bF 19 5,hC 20 68 1 4,eW 21 66 20,bF 22 0,nU 23 49 21 22,ro 24 (.hi 53 [(0,(.t 19)),(1,(.t 23))]),uL 7 53,sY 53 7 24] [2,3,5,7] (ca [bF 25 5,ro 26 (.dI .add 9 (.t 25) (.c (.str [32]))),hC 27 53 7 1,eW 28 22 27,ro 29 (.call (.f 50) [(.t 28),(.c (.str [44]))]),mw 30 .add 9 26 29,dA 8 30] [2,3,7,8] (ca [eW 31 76 2,bF 32 8,ro 33 (.hk 76 (.t 31) (.t 32)),sW 34 33] [2,3,7,8,34] (.cond (.t 34) (ca [eW 35 76 2,bF 36 8,⟨none,.ik 76 (.t 35) (.t 36) (.c (.bool true)),none⟩] [2,3,7] (.dJ [eW 37 27 3,eW 38 53 7,xf 39 27 38,sX 40 27 27 37 39,sY 27 3 40] (some [2,3]))) .skip)))
def VJ:aI:=EZ [hC 10 68 1 2,eW 11 9 10,hC 12 68 1 3,eW 13 66 12,bF 14 0,nU 15 49 13 14,nU 16 48 11 15,bF 9 16,KF 17 9 0,KF 18 9 1,dA 5 17,dA 6 18] [[],[0],[],[2],[],[3,4],[1,5,5],[6],[7],[7],[8,6,0,1,2,3,4,5,6,7,8],[9,10,0,1,2,3,4,5,6,7,8,9,10]] [0,1,2,3,5] VI
def VK:aI:=.fM (zH ay 3 15 [bF 16 6] [(.t 16)] (some 17) [] [0,3]) (K5 81 3 15 [bF 16 6] [(.t 16)] (some 17) [])
def VL:aI:=.cond (.t 14) VK .skip
def LB:aI:=ca [lg 5 true] [0,3,5] .ret
def VM:aI:=.seq (ca [eW 11 102 2,bF 12 6,nU 13 78 11 12,gf 14 .neq 2 13 0] [0,3,6,14] VL) LB
def VN:aI:=.seq (.fM (uU ay [eW 7 22 1,bF 8 0,ro 9 (.eD 127 2 [(0,(.t 7)),(1,(.t 8))]),mx 10 77 9,dA 6 10] 6 [0,2,3,6]) (DG [eW 7 22 1,bF 8 0,ro 9 (.eD 127 2 [(0,(.t 7)),(1,(.t 8))]),mx 10 77 9,dA 6 10])) VM
def LC:aI:=ca [lg 5 false] [0,1,2,3] VN
theorem VO:LC.kc (λT b=>s3 ay T b\/zI ay T b):=And.intro (True.intro) (And.intro (.inl ⟨_,_,_,rfl,rfl⟩) (And.intro (And.intro (True.intro) (And.intro (.inr ⟨_,_,_,_,_,_,_,_,rfl,rfl,(by kernel_rfl),(by decide),(by decide)⟩) (True.intro))) (And.intro (True.intro) (True.intro))))
theorem VP:eI ⟨18,[0,1,2,3]⟩ (Tryz.f76.body.getD .skip)=some LC.strip:=by kernel_rfl
def VQ:aI:=.cond (.t 11) .skip (.exit 0)
def VR:aI:=.cond (.t 27) .skip (.exit 2)
def VS:aI:=.dJ [bF 31 5,gf 32 .sub 3 31 1,dA 5 32] (some [0,1,4,5])
def VT:aI:=.block 3 (ca [bF 28 4,bF 29 5,sV 30 22 28 29,⟨none,.iV 2 (.t 30) (.c (.int .i64 0)),none⟩] [0,1,4,5] VS)
def LD:aI:=.seq (EZ [bF 15 5,gf 16 .geq 3 15 0,bF 17 16,fl 18 17 (.gm (.t 4)),fl 19 17 (.gm (.t 5)),fl 20 17 (.hT 22 (.t 18) (.t 19)),fl 21 17 (.dU 2 (.t 20)),fl 22 17 (.gm (.t 0)),fl 23 17 (.gm (.t 5)),fl 24 17 (.hT 22 (.t 22) (.t 23)),fl 25 17 (.dU 2 (.t 24)),fl 26 17 (.dI .eql 2 (.t 21) (.t 25)),ro 27 (.pick (.t 17) (.t 26) (.c (.bool false)))] [[],[0],[1],[2],[2],[3,4,2],[5,2],[2],[2],[7,8,2],[9,2],[6,10,2],[2,11]] [0,1,4,5,27] VR) VT
def VU:aI:=.cond (.t 34) .ret .skip
def VV:aI:=.dJ [bF 35 4,bF 36 5,sV 37 22 35 36,eW 38 2 37,gf 39 .add 2 38 1,sV 40 22 35 36,sY 2 40 39] (some [0,1,4])
def VW:aI:=.seq (ca [bF 33 5,gf 34 .lss 3 33 0] [0,1,4,5,34] VU) VV
def VX:aI:=.seq (.block 2 (.loop LD)) VW
def VY:aI:=.block 1 (ca [bF 12 4,kg 13 22 12,gf 14 .sub 3 13 1,dA 5 14] [0,1,4,5] VX)
def LF:aI:=.seq (.seq (.fM (rm ay [bF 9 1,bF 10 4] (.t 9) [(.t 10)] (some 11) [] [0,1,4,11]) (zE [bF 9 1,bF 10 4] (.t 9) [(.t 10)] (some 11) [])) VQ) VY
def VZ:aI:=.block 0 (.loop LF)
def LG:aI:=ca [bF 6 0,kg 7 22 6,ro 8 (.dZ 22 (.t 7) (.t 7)),dA 4 8] [0,1,4] VZ
theorem V0:LG.kc (uT ay):=And.intro (True.intro) (And.intro (And.intro (⟨_,_,_,_,_,_,rfl,rfl⟩) (And.intro (True.intro) (True.intro))) (And.intro (True.intro) (And.intro (And.intro (And.intro (True.intro) (And.intro (True.intro) (True.intro))) (And.intro (True.intro) (True.intro))) (And.intro (And.intro (True.intro) (And.intro (True.intro) (True.intro))) (True.intro)))))
theorem oO:eI ⟨41,[0,1]⟩ (Tryz.f75.body.getD .skip)=some LG.strip:=by kernel_rfl
def V1:aI:=.fM (rm ay [hC 10 68 3 0,eW 11 22 10,ro 12 (.mO 76 [(.t 4),(.t 6),(.t 5)])] (.f 75) [(.t 11),(.t 12)] (some 13) [] [2]) (zE [hC 10 68 3 0,eW 11 22 10,ro 12 (.mO 76 [(.t 4),(.t 6),(.t 5)])] (.f 75) [(.t 11),(.t 12)] (some 13) [])
def V2:aI:=ca [hC 7 68 3 1,eW 8 65 7,mx 9 74 8,uL 6 102,sY 102 6 9] [2,3,4,5,6] V1
def LH:aI:=ca [ro 3 (.hj 68 (.t 0)),ro 4 (.hj 22 (.t 1)),⟨some 5,.iA 81 (.t 2),none⟩] [2,3,4,5] V2
theorem V3:LH.kc (uT ay):=And.intro (True.intro) (And.intro (True.intro) (⟨_,_,_,_,_,_,rfl,rfl⟩))
theorem V4:eI ⟨14,[0,1,2]⟩ (Tryz.f46.body.getD .skip)=some LH.strip:=by kernel_rfl
def V5:aI:=.fM (rm ay [eW 17 68 8,bF 18 1,ro 19 (.mO 47 [(.t 8),(.t 6),(.t 5)])] (.f 46) [(.t 17),(.t 18),(.t 19)] (some 20) [] [1,5,6,11,12,13]) (zE [eW 17 68 8,bF 18 1,ro 19 (.mO 47 [(.t 8),(.t 6),(.t 5)])] (.f 46) [(.t 17),(.t 18),(.t 19)] (some 20) [])
def V6:aI:=.dJ [gf 21 .add 3 13 1,bF 13 21] (some [1,5,6,11,12,13])
def V7:aI:=.seq (.block 1 (ca [sV 15 30 11 13,eW 16 68 15,uL 8 68,sY 68 8 16] [1,5,6,8,11,12,13] V5)) V6
def V8:aI:=.seq (.cond (.t 14) .skip (.exit 0)) V7
def LI:aI:=ca [mw 14 .lss 3 13 12] [1,5,6,11,12,13,14] V8
def V9:aI:=.block 0 (.loop LI)
def V_:aI:=ca [eW 22 27 5,dA 4 22] [4] .ret
def Wa:aI:=.seq (ca [hC 10 32 2 2,eW 11 30 10,kg 12 30 11,Sz 13 0] [1,5,6,11,12,13] V9) V_
def Wb:aI:=ca [ro 9 (.pd),uL 6 76,sY 76 6 9] [1,2,5,6] Wa
def Wc:aI:=ca [uL 5 27] [1,2,5] Wb
def LJ:aI:=ca [ro 2 (.hj 32 (.t 0)),xe 4] [1,2] Wc
theorem Wd:LJ.kc (uT ay):=And.intro (True.intro) (And.intro (True.intro) (And.intro (True.intro) (And.intro (And.intro (True.intro) (And.intro (True.intro) (And.intro (And.intro (True.intro) (True.intro)) (And.intro (And.intro (True.intro) (⟨_,_,_,_,_,_,rfl,rfl⟩)) (True.intro))))) (And.intro (True.intro) (True.intro)))))
theorem We:eI ⟨23,[0,1]⟩ (Tryz.f24.body.getD .skip)=some LJ.strip:=by kernel_rfl
noncomputable def iC:aI:=cF (cE 18 [0,1] Tryz.f8 [[1,2],[1,2,6],[4,5],[1,2,10],[4,5],[4,5]])
noncomputable def Wf:aI:=cF (cE 26 [0,1] Tryz.f11 [[0,1],[0,1,10],[4],[0,1,5],[0,1,5,14],[0,1,5,25],[4],[0,1,5],[4]])
noncomputable def Wg:aI:=cF (cE 16 [0,1] Tryz.f25 [[2,3],[2,3,9],[4],[15],[4],[4]])
noncomputable def CA:aI:=cF (cE 27 [0,1] Tryz.f9 [[0,1],[0,1,10],[4],[0,1,5],[0,1,5,14],[0,1,5,26],[4],[0,1,5],[4]])
noncomputable def Wh:aI:=cF (cE 15 [0,1] Tryz.f106 [[2,3],[2,3,9],[4],[14],[4],[4]])
noncomputable def Wi:aI:=cF (cE 27 [0,1] Tryz.f82 [[0,1],[0,1,10],[4],[0,1,5],[0,1,5,14],[0,1,5,26],[4],[0,1,5],[4]])
noncomputable def Wj:aI:=cF (cE 27 [0,1] Tryz.f83 [[0,1],[0,1,10],[4],[0,1,5],[0,1,5,14],[0,1,5,26],[4],[0,1,5],[4]])
noncomputable def Wk:aI:=cF (cE 34 [0,1] Tryz.f51 [[2,3],[2,3,10],[4],[2,3,16],[4],[2,3,21],[4],[2,3,27],[4],[33],[4],[4]])
noncomputable def x4:aI:=cF (cE 27 [0,1] Tryz.f26 [[0,1],[0,1,10],[4],[0,1,5],[0,1,5,14],[0,1,5,26],[4],[0,1,5],[4]])
noncomputable def E0:aI:=cF (cE 22 [0,1] Tryz.f10 [[2,3],[2,3,9],[4],[2,3,15],[4],[21],[4],[4]])
noncomputable def Wl:aI:=cF (cE 19 [0] Tryz.f13 [[0,1],[0,1,5],[0,1,5,9],[0,1,5],[0,1,5],[0,1,5],[0,4]])
noncomputable def Wm:aI:=cF (cE 27 [0] Tryz.f52 [[0,1],[0,1,5],[0,1,5,9],[0,1,5],[0,1,5],[0,1,5],[0,1,5],[0,1,5],[0,4]])
def LK:aI:=.seq (ca [bF 6 0,gf 7 .gtr 3 6 0] [0,3,7] (.cond (.t 7) .skip (.exit 0))) (.block 1 (ca [bF 8 0,gf 9 .rem 3 8 10,ro 10 (.dI .add 3 (.c (.int .i64 48)) (.t 9)),zA 11 3 5 10,xf 12 85 11,zA 13 85 9 12,bF 14 3,mw 15 .add 9 13 14,dA 3 15] [0,3] (.dJ [bF 16 0,gf 17 .quo 3 16 10,dA 0 17] (some [0,3]))))
def Wn:aI:=ca [ro 2 (.il (.c (.str [])))] [0] (.seq (ca [bF 4 0,gf 5 .leq 3 4 0] [0,5] (.cond (.t 5) (ca [ro 2 (.il (.c (.str [109,48])))] [2] .ret) .skip)) (ca [ro 3 (.il (.c (.str [])))] [0,3] (.seq (.block 0 (.loop LK)) (ca [bF 18 3,ro 19 (.dI .add 9 (.c (.str [109])) (.t 18)),dA 2 19] [2] .ret))))
noncomputable def Wo:aI:=cF (cE 19 [0] Tryz.f53 [[0,1],[0,1,5],[0,1,5,9],[0,1,5],[0,1,5],[0,4]])
noncomputable def Wp:aI:=cF (cE 49 [0] Tryz.f27 [[0,1],[0,1,5],[0,1,5,9],[0,1,5],[0,1,5],[0,1,5],[0,1,5],[0,1,5],[0,1,5],[0,1,5],[0,4]])
def Wq:aI:=ca [⟨some 2,.iA 32 (.t 0),none⟩,zz 4 0] [0,1,2] (ca [hC 5 32 2 1,eW 6 22 5,bF 7 1,⟨some 8,.kG (.f 13) [(.t 6),(.t 7)] [2],none⟩,dA 1 8] [0,1,2] (ca [hC 9 32 2 2,eW 10 30 9,bF 11 1,nU 12 27 10 11,dA 1 12] [0,1] (ca [bF 13 1,dA 4 13] [0,4] .ret)))
noncomputable def kU:aI:=cF (cE 28 [0] Tryz.f14 [[0,1],[0,1,5],[0,1,5,9],[0,1,5],[0,1,5],[0,1,5],[0,1,5],[0,4]])
noncomputable def Wr:aI:=cF (cE 21 [0] Tryz.f29 [[0,1],[0,1,5],[0,1,5,9],[0,1,5,17],[4],[0,1,5],[0,1,5],[4]])
noncomputable def Ws:aI:=cF (cE 32 [0] Tryz.f15 [[0,1],[0,1,5],[0,1,5,9],[0,1,5,19],[4],[0,1,5],[0,1,5],[0,1,5,30],[4],[0,1,5],[4]])
noncomputable def kI:aI:=cF (cE 117 [0,1] Tryz.f3 [[1,2],[1,2,19],[4],[1,2,5],[1,2,5],[1,2,24],[4],[1,2,6,7],[1,2,6,7,8],[1,2,6,7,8,9],[1,2,6,7,8,9,10,11],[1,2,6,7,8,9,10,11,51],[4],[1,2,6,7,8,9,10,11,56],[4],[1,2,6,7,8,9,10,11,61],[4],[1,2,6,7,8,9,10,11,12],[1,2,6,7,9,10,11,12],[1,2,6,7,10,11,12],[1,2,6,7,10,80],[4],[1,2,6,7,10,13],[1,2,6,7,10,13],[1,2,6,7,10,13,14],[1,2,6,7,10,13,14],[1,2,6,7,10,13,14,88],[4],[1,2,6,7,10,13,91],[4],[6,7,10,13,15,16],[10,13,108],[4],[10,13,14],[13,14],[13,14,113],[4],[116],[4],[4]])
def LL:=PLift.up (And.intro @Bool.not_true @Bool.not_false)
def abK:=PLift.up (And.intro @length_append.{0} (And.intro @length_cons.{0} (And.intro @length_nil.{0} (And.intro @length_map.{0,0} (And.intro @length_replicate.{0} (And.intro @Nat.zero_add @Nat.add_zero))))))
end Go.Proofs.YtndfcecbamffaaaGreatDoor
