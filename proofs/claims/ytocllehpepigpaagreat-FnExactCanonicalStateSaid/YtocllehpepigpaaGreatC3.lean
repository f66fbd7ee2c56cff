/- Part of a proof that a law returns true for every input. No condition. -/
import Derived.Test.YtocllehpepigpaaGreatTb
import Derived.Test.YtocllehpepigpaaGreatFwL
import Derived.Test.YtocllehpepigpaaGreatP3
namespace Go.Proofs.YtocllehpepigpaaGreat
open Go Go.cZ Go.eN
set_option linter.unusedSimpArgs false
def fN (x:ht):I:=.agg [.int .i64 x.Kind,.int .i64 x.Value]
theorem Xn (x:ht):(fN x).share=fN x:=by
 simp only[fN,de]
theorem aEk (x:ht):(fN x).dd=true:=by
 simp only[fN,I.dd,I.hY,Bool.and_self]
def fT (x:List ht):I:=.slice (x.map fN)
theorem NK (x:List ht):(fT x).share=fT x:=by
 simp only[fT,de, @b5 _ fN fN (fun _=>Xn _)]
def gi (x:iT):I:=.agg [.int .i64 x.Kind,.int .i64 x.Number,.str x.Name,.slice (x.cO.map fT)]
theorem NL (x:iT):(gi x).share=gi x:=by
 simp only[gi,de, @b5 _ fT fT (fun _=>NK _)]
def gJ (x:iU):I:=.agg [.str x.Name,.int .i64 x.dt,.slice (x.Body.map gi)]
theorem NM (x:iU):(gJ x).share=gJ x:=by
 simp only[gJ,de, @b5 _ gi gi (fun _=>NL _)]
def bs (x:Int):I:=.int .i64 x
theorem np (x:Int):(bs x).share=bs x:=by
 simp only[bs,de]
theorem HU (x:Int):(bs x).dd=true:=by
 simp only[bs,I.dd,I.hY,Bool.and_self]
def gK (x:iV):I:=.agg [.int .i64 x.cm,.slice (x.bS.map bs)]
theorem NN (x:iV):(gK x).share=gK x:=by
 simp only[gK,de, @b5 _ bs bs (fun _=>np _)]
def gx (x:iG):I:=.agg [.str x.Left,.str x.cp,.str x.Result]
theorem NO (x:iG):(gx x).share=gx x:=by
 simp only[gx,de]
theorem aEl (x:iG):(gx x).dd=true:=by
 simp only[gx,I.dd,I.hY,Bool.and_self]
def bE (x:List UInt8):I:=.str x
theorem iK (x:List UInt8):(bE x).share=bE x:=by
 simp only[bE,de]
theorem NP (x:List UInt8):(bE x).dd=true:=by
 simp only[bE,I.dd,I.hY,Bool.and_self]
def jy (x:k6):I:=.agg [.slice (x.ew.map gJ),.slice (x.c8.map gK),.slice (x.hE.map gx),.slice (x.hv.map bE),.slice (x.hx.map bE)]
theorem aEm (x:k6):(jy x).share=jy x:=by
 simp only[jy,de, @b5 _ gJ gJ (fun _=>NM _), @b5 _ gK gK (fun _=>NN _), @b5 _ gx gx (fun _=>NO _), @b5 _ bE bE (fun _=>iK _)]
def gy (x:iH):I:=.agg [.int .i64 x.cm,.int .i64 x.Part,.slice (x.bS.map bs)]
theorem aEn (x:iH):(gy x).share=gy x:=by
 simp only[gy,de, @b5 _ bs bs (fun _=>np _)]
def HV (x:List iU):I:=.slice (x.map gJ)
theorem aEo (x:List iU):(HV x).share=HV x:=by
 simp only[HV,de, @b5 _ gJ gJ (fun _=>NM _)]
def HW (x:List iV):I:=.slice (x.map gK)
theorem aEp (x:List iV):(HW x).share=HW x:=by
 simp only[HW,de, @b5 _ gK gK (fun _=>NN _)]
def HX (x:List iG):I:=.slice (x.map gx)
theorem aEq (x:List iG):(HX x).share=HX x:=by
 simp only[HX,de, @b5 _ gx gx (fun _=>NO _)]
def zW (x:List (List UInt8)):I:=.slice (x.map bE)
theorem aEr (x:List (List UInt8)):(zW x).share=zW x:=by
 simp only[zW,de, @b5 _ bE bE (fun _=>iK _)]
def HY (x:List iT):I:=.slice (x.map gi)
theorem aEs (x:List iT):(HY x).share=HY x:=by
 simp only[HY,de, @b5 _ gi gi (fun _=>NL _)]
def HZ (x:List (List ht)):I:=.slice (x.map fT)
theorem aEt (x:List (List ht)):(HZ x).share=HZ x:=by
 simp only[HZ,de, @b5 _ fT fT (fun _=>NK _)]
def zX (x:List Int):I:=.slice (x.map bs)
theorem aEu (x:List Int):(zX x).share=zX x:=by
 simp only[zX,de, @b5 _ bs bs (fun _=>np _)]
def cc (x:b7):I:=.agg [.int .i64 x.Kind,.int .i64 x.Value]
theorem H0 (x:b7):(cc x).share=cc x:=by
 simp only[cc,de]
theorem Xo (x:b7):(cc x).dd=true:=by
 simp only[cc,I.dd,I.hY,Bool.and_self]
def ey (x:List b7):I:=.slice (x.map cc)
theorem H2 (x:List b7):(ey x).share=ey x:=by
 simp only[ey,de, @b5 _ cc cc (fun _=>H0 _)]
def cA (x:bJ):I:=.agg [.int .i64 x.Kind,.int .i64 x.Number,.str x.Name,.slice (x.cO.map ey)]
theorem zY (x:bJ):(cA x).share=cA x:=by
 simp only[cA,de, @b5 _ ey ey (fun _=>H2 _)]
def bA (x:bj):I:=.agg [.str x.Name,.int .i64 x.dt,.slice (x.Body.map cA)]
theorem uu (x:bj):(bA x).share=bA x:=by
 simp only[bA,de, @b5 _ cA cA (fun _=>zY _)]
def fv (x:List b7):I:=.an 2 (x.map cc)
theorem H3 (x:List b7):(fv x).share=ey x:=by
 simp only[fv,ey,de, @b5 _ cc cc (fun _=>H0 _)]
theorem NQ (x:List b7):(fv x).dd=true:=by
 simp only[fv,I.dd,I.hY,Bool.and_self, @kB _ cc (fun _=>Xo _)]
def fp (x:bJ):I:=.agg [.int .i64 x.Kind,.int .i64 x.Number,.str x.Name,.an 1 (x.cO.map fv)]
theorem H4 (x:bJ):(fp x).share=cA x:=by
 simp only[fp,cA,de, @b5 _ fv ey (fun _=>H3 _)]
theorem NR (x:bJ):(fp x).dd=true:=by
 simp only[fp,I.dd,I.hY,Bool.and_self, @kB _ fv (fun _=>NQ _)]
def e5 (x:bj):I:=.agg [.str x.Name,.int .i64 x.dt,.an 4 (x.Body.map fp)]
theorem sg (x:bj):(e5 x).share=bA x:=by
 simp only[e5,bA,de, @b5 _ fp cA (fun _=>H4 _)]
theorem NS (x:bj):(e5 x).dd=true:=by
 simp only[e5,I.dd,I.hY,Bool.and_self, @kB _ fp (fun _=>NR _)]
def Eb (x:List bJ):I:=.an 4 (x.map fp)
def zZ (x:List bJ):I:=.slice (x.map cA)
theorem aEv (x:List bJ):(zZ x).share=zZ x:=by
 simp only[zZ,de, @b5 _ cA cA (fun _=>zY _)]
theorem aEw (x:List bJ):(Eb x).share=zZ x:=by
 simp only[Eb,zZ,de, @b5 _ fp cA (fun _=>H4 _)]
theorem aEx (x:List bJ):(Eb x).dd=true:=by
 simp only[Eb,I.dd,I.hY,Bool.and_self, @kB _ fp (fun _=>NR _)]
def Ec (x:List (List b7)):I:=.an 1 (x.map fv)
def z1 (x:List (List b7)):I:=.slice (x.map ey)
theorem aEy (x:List (List b7)):(z1 x).share=z1 x:=by
 simp only[z1,de, @b5 _ ey ey (fun _=>H2 _)]
theorem aEz (x:List (List b7)):(Ec x).share=z1 x:=by
 simp only[Ec,z1,de, @b5 _ fv ey (fun _=>H3 _)]
theorem aEA (x:List (List b7)):(Ec x).dd=true:=by
 simp only[Ec,I.dd,I.hY,Bool.and_self, @kB _ fv (fun _=>NQ _)]
def e2 (x:dk):I:=.agg [.int .i64 x.cm,.slice (x.bS.map bs)]
theorem uv (x:dk):(e2 x).share=e2 x:=by
 simp only[e2,de, @b5 _ bs bs (fun _=>np _)]
def ff (x:dk):I:=.agg [.int .i64 x.cm,.an 1 (x.bS.map bs)]
theorem si (x:dk):(ff x).share=e2 x:=by
 simp only[ff,e2,de, @b5 _ bs bs (fun _=>np _)]
theorem NT (x:dk):(ff x).dd=true:=by
 simp only[ff,I.dd,I.hY,Bool.and_self, @kB _ bs (fun _=>HU _)]
def Ed (x:List Int):I:=.an 1 (x.map bs)
theorem aEB (x:List Int):(Ed x).share=zX x:=by
 simp only[Ed,zX,de, @b5 _ bs bs (fun _=>np _)]
theorem aEC (x:List Int):(Ed x).dd=true:=by
 simp only[Ed,I.dd,I.hY,Bool.and_self, @kB _ bs (fun _=>HU _)]
def bz (x:cb):I:=.agg [.str x.Left,.str x.cp,.str x.Result]
theorem mN (x:cb):(bz x).share=bz x:=by
 simp only[bz,de]
theorem NU (x:cb):(bz x).dd=true:=by
 simp only[bz,I.dd,I.hY,Bool.and_self]
def mO (x:ea):I:=.agg [.an 3 (x.ew.map e5),.an 2 (x.c8.map ff),.an 3 (x.hE.map bz),.an 1 (x.hv.map bE),.an 1 (x.hx.map bE)]
def gz (x:ea):I:=.agg [.slice (x.ew.map bA),.slice (x.c8.map e2),.slice (x.hE.map bz),.slice (x.hv.map bE),.slice (x.hx.map bE)]
theorem aED (x:ea):(gz x).share=gz x:=by
 simp only[gz,de, @b5 _ bA bA (fun _=>uu _), @b5 _ e2 e2 (fun _=>uv _), @b5 _ bz bz (fun _=>mN _), @b5 _ bE bE (fun _=>iK _)]
theorem Xp (x:ea):(mO x).share=gz x:=by
 simp only[mO,gz,de, @b5 _ e5 bA (fun _=>sg _), @b5 _ ff e2 (fun _=>si _), @b5 _ bz bz (fun _=>mN _), @b5 _ bE bE (fun _=>iK _)]
theorem aEE (x:ea):(mO x).dd=true:=by
 simp only[mO,I.dd,I.hY,Bool.and_self, @kB _ e5 (fun _=>NS _), @kB _ ff (fun _=>NT _), @kB _ bz (fun _=>NU _), @kB _ bE (fun _=>NP _)]
def Ee (x:List bj):I:=.an 3 (x.map e5)
def z6 (x:List bj):I:=.slice (x.map bA)
theorem aEF (x:List bj):(z6 x).share=z6 x:=by
 simp only[z6,de, @b5 _ bA bA (fun _=>uu _)]
theorem aEG (x:List bj):(Ee x).share=z6 x:=by
 simp only[Ee,z6,de, @b5 _ e5 bA (fun _=>sg _)]
theorem aEH (x:List bj):(Ee x).dd=true:=by
 simp only[Ee,I.dd,I.hY,Bool.and_self, @kB _ e5 (fun _=>NS _)]
def Ef (x:List dk):I:=.an 2 (x.map ff)
def z7 (x:List dk):I:=.slice (x.map e2)
theorem aEI (x:List dk):(z7 x).share=z7 x:=by
 simp only[z7,de, @b5 _ e2 e2 (fun _=>uv _)]
theorem aEJ (x:List dk):(Ef x).share=z7 x:=by
 simp only[Ef,z7,de, @b5 _ ff e2 (fun _=>si _)]
theorem aEK (x:List dk):(Ef x).dd=true:=by
 simp only[Ef,I.dd,I.hY,Bool.and_self, @kB _ ff (fun _=>NT _)]
def Eg (x:List cb):I:=.an 3 (x.map bz)
def z8 (x:List cb):I:=.slice (x.map bz)
theorem aEL (x:List cb):(z8 x).share=z8 x:=by
 simp only[z8,de, @b5 _ bz bz (fun _=>mN _)]
theorem aEM (x:List cb):(Eg x).share=z8 x:=by
 simp only[Eg,z8,de, @b5 _ bz bz (fun _=>mN _)]
theorem aEN (x:List cb):(Eg x).dd=true:=by
 simp only[Eg,I.dd,I.hY,Bool.and_self, @kB _ bz (fun _=>NU _)]
def Eh (x:List (List UInt8)):I:=.an 1 (x.map bE)
theorem aEO (x:List (List UInt8)):(Eh x).share=zW x:=by
 simp only[Eh,zW,de, @b5 _ bE bE (fun _=>iK _)]
theorem aEP (x:List (List UInt8)):(Eh x).dd=true:=by
 simp only[Eh,I.dd,I.hY,Bool.and_self, @kB _ bE (fun _=>NP _)]
def bD (x:aW):I:=.agg [.int .i64 x.cm,.int .i64 x.Part,.slice (x.bS.map bs)]
theorem wR (x:aW):(bD x).share=bD x:=by
 simp only[bD,de, @b5 _ bs bs (fun _=>np _)]
def b6 (x:aW):I:=.agg [.int .i64 x.cm,.int .i64 x.Part,.an 1 (x.bS.map bs)]
theorem jY (x:aW):(b6 x).share=bD x:=by
 simp only[b6,bD,de, @b5 _ bs bs (fun _=>np _)]
theorem H5 (x:aW):(b6 x).dd=true:=by
 simp only[b6,I.dd,I.hY,Bool.and_self, @kB _ bs (fun _=>HU _)]
def Ei (x:Bool×aW):I:=cond x.1 (.agg [.int .i64 x.2.cm,.int .i64 x.2.Part,.hole]) (b6 x.2)
theorem aEQ:(Ei∘fun x=>(false,x))=b6:=rfl
theorem aER (x:aW):Ei (true,x)= .agg [.int .i64 x.cm,.int .i64 x.Part,.hole]:=rfl
theorem aES {x:Bool×aW} (h:Rp (!x.1)=some ()):Ei x=b6 x.2:=by
 obtain⟨b,x⟩:=x
 cases b
 ·rfl
 ·cases h
theorem aET (x:Bool×aW):(Ei x).wd=3:=by
 obtain⟨b,x⟩:=x
 cases b<;>rfl
def dT (x:cM):I:=.agg [.int .i64 x.scope,.bool x.behind]
theorem NV (x:cM):(dT x).share=dT x:=by
 simp only[dT,de]
theorem Xq (x:cM):(dT x).dd=true:=by
 simp only[dT,I.dd,I.hY,Bool.and_self]
def z_ (x:Bool):I:=.bool x
theorem aEU (x:Bool):(z_ x).share=z_ x:=by
 simp only[z_,de]
theorem aEV (x:Bool):(z_ x).dd=true:=by
 simp only[z_,I.dd,I.hY,Bool.and_self]
def U (r:List cj) (k:List Nat) (c:J):J:=.seq (.ca r (some k)) c
def hW (r:List cj) (a:List (List Nat)) (k:List Nat) (c:J):J:=.seq (.l9 r a (some k)) c
abbrev bw (d t:Nat) (o:gb):cj:=⟨some d,o,some (t,true)⟩
abbrev bo (d t:Nat) (o:gb):cj:=⟨some d,o,some (t,false)⟩
abbrev aEW (n:Nat) (k:List Nat) (f:Func) (c:J):Prop:=bn ⟨n,k⟩ (f.body.getD .skip)=some c.strip
def Xr:J:=U [a7 4 (-1)] [4] .ret
def Xs:J:=.cond (.t 10) Xr .skip
def Xt:J:=U [ad 11 1,aJ 4 11] [4] .ret
def Xu:J:=.seq (U [ad 9 1,a_ 10 .lss 3 9 0] [1,10] Xs) Xt
def Xv:J:=U [ad 5 1,ad 6 0,bX 7 301 6,bP 8 .sub 3 5 7,aJ 1 8] [1] Xu
def Xw:J:=U [a7 4 0] [0,1] Xv
theorem Xx:bn ⟨12,[0]⟩ (Tryz.f282.body.getD .skip)=some Xw.strip:=by kernel_rfl
def Xy:J:=U [a7 4 (-1)] [4] .ret
def Xz:J:=.cond (.t 11) Xy .skip
def XA:J:=.cond (.t 15) .skip (.exit 0)
def XB:J:=U [a7 4 (-1)] [4] .ret
def XC:J:=.cond (.t 25) XB .skip
def XD:J:=U [ad 24 1,a_ 25 .lss 3 24 0] [0,1,5,25] XC
def XE:J:=.ca [ad 16 5,a_ 17 .add 3 16 1,aJ 5 17] (some [0,1,5])
def XF:J:=.seq (.block 1 (U [ad 18 0,ad 19 5,cn 20 218 18 19,aP 21 301 20,ad 22 1,dD 23 282 21 22,aJ 1 23] [0,1,5] XD)) XE
def NW:J:=.seq (U [ad 12 5,ad 13 0,bX 14 218 13,bP 15 .lss 3 12 14] [0,1,5,15] XA) XF
def XG:J:=.block 0 (.loop NW)
def XH:J:=U [ad 26 1,aJ 4 26] [4] .ret
def XI:J:=.seq (U [a7 5 0] [0,1,5] XG) XH
def XJ:J:=.seq (U [ad 10 1,a_ 11 .lss 3 10 0] [0,1,11] Xz) XI
def XK:J:=U [ad 6 1,ad 7 0,bX 8 218 7,bP 9 .sub 3 6 8,aJ 1 9] [0,1] XJ
def XL:J:=U [a7 4 0] [0,1] XK
theorem XM:bn ⟨27,[0]⟩ (Tryz.f239.body.getD .skip)=some XL.strip:=by kernel_rfl
def XN:J:=U [a7 4 (-1)] [4] .ret
def XO:J:=.cond (.t 11) XN .skip
def XP:J:=U [a7 4 (-1)] [4] .ret
def XQ:J:=.cond (.t 17) XP .skip
def XR:J:=U [ad 18 1,aJ 4 18] [4] .ret
def XS:J:=.seq (U [ad 16 1,a_ 17 .lss 3 16 0] [1,17] XQ) XR
def XT:J:=U [a1 12 220 2 3,aP 13 218 12,ad 14 1,dD 15 239 13 14,aJ 1 15] [1] XS
def XU:J:=.seq (U [ad 10 1,a_ 11 .lss 3 10 0] [1,2,11] XO) XT
def XV:J:=U [ad 5 1,a1 6 220 2 2,aP 7 9 6,bX 8 9 7,bP 9 .sub 3 5 8,aJ 1 9] [1,2] XU
def XW:J:=U [ro 2 (.da 220 (.t 0)),a7 4 0] [1,2] XV
theorem XX:bn ⟨19,[0]⟩ (Tryz.f180.body.getD .skip)=some XW.strip:=by kernel_rfl
def XY:J:=U [a7 4 (-1)] [4] .ret
def XZ:J:=.cond (.t 11) XY .skip
def X0:J:=.cond (.t 15) .skip (.exit 0)
def X1:J:=U [a7 4 (-1)] [4] .ret
def X2:J:=.cond (.t 25) X1 .skip
def X3:J:=U [ad 24 1,a_ 25 .lss 3 24 0] [0,1,5,25] X2
def X4:J:=.ca [ad 16 5,a_ 17 .add 3 16 1,aJ 5 17] (some [0,1,5])
def X5:J:=.seq (.block 1 (U [ad 18 0,ad 19 5,cn 20 107 18 19,aP 21 220 20,ad 22 1,dD 23 180 21 22,aJ 1 23] [0,1,5] X3)) X4
def NX:J:=.seq (U [ad 12 5,ad 13 0,bX 14 107 13,bP 15 .lss 3 12 14] [0,1,5,15] X0) X5
def X6:J:=.block 0 (.loop NX)
def X7:J:=U [ad 26 1,aJ 4 26] [4] .ret
def X8:J:=.seq (U [a7 5 0] [0,1,5] X6) X7
def X9:J:=.seq (U [ad 10 1,a_ 11 .lss 3 10 0] [0,1,11] XZ) X8
def X_:J:=U [ad 6 1,ad 7 0,bX 8 107 7,bP 9 .sub 3 6 8,aJ 1 9] [0,1] X9
def Ya:J:=U [a7 4 0] [0,1] X_
theorem Yb:bn ⟨27,[0]⟩ (Tryz.f131.body.getD .skip)=some Ya.strip:=by kernel_rfl
def Yc:J:=U [a7 4 (-1)] [4] .ret
def Yd:J:=.cond (.t 11) Yc .skip
def Ye:J:=U [a7 4 (-1)] [4] .ret
def Yf:J:=.cond (.t 17) Ye .skip
def Yg:J:=U [ad 18 1,aJ 4 18] [4] .ret
def Yh:J:=.seq (U [ad 16 1,a_ 17 .lss 3 16 0] [1,17] Yf) Yg
def Yi:J:=U [a1 12 109 2 2,aP 13 107 12,ad 14 1,dD 15 131 13 14,aJ 1 15] [1] Yh
def Yj:J:=.seq (U [ad 10 1,a_ 11 .lss 3 10 0] [1,2,11] Yd) Yi
def Yk:J:=U [ad 5 1,a1 6 109 2 0,aP 7 9 6,bX 8 9 7,bP 9 .sub 3 5 8,aJ 1 9] [1,2] Yj
def Yl:J:=U [ro 2 (.da 109 (.t 0)),a7 4 0] [1,2] Yk
theorem Ym:bn ⟨19,[0]⟩ (Tryz.f75.body.getD .skip)=some Yl.strip:=by kernel_rfl
def Yn:J:=U [a7 4 (-1)] [4] .ret
def Yo:J:=.cond (.t 11) Yn .skip
def Yp:J:=.cond (.t 15) .skip (.exit 0)
def Yq:J:=U [a7 4 (-1)] [4] .ret
def Yr:J:=.cond (.t 25) Yq .skip
def Ys:J:=U [ad 24 1,a_ 25 .lss 3 24 0] [0,1,5,25] Yr
def Yt:J:=.ca [ad 16 5,a_ 17 .add 3 16 1,aJ 5 17] (some [0,1,5])
def Yu:J:=.seq (.block 1 (U [ad 18 0,ad 19 5,cn 20 22 18 19,aP 21 109 20,ad 22 1,dD 23 75 21 22,aJ 1 23] [0,1,5] Ys)) Yt
def NY:J:=.seq (U [ad 12 5,ad 13 0,bX 14 22 13,bP 15 .lss 3 12 14] [0,1,5,15] Yp) Yu
def Yv:J:=.block 0 (.loop NY)
def Yw:J:=U [ad 26 1,aJ 4 26] [4] .ret
def Yx:J:=.seq (U [a7 5 0] [0,1,5] Yv) Yw
def Yy:J:=.seq (U [ad 10 1,a_ 11 .lss 3 10 0] [0,1,11] Yo) Yx
def Yz:J:=U [ad 6 1,ad 7 0,bX 8 22 7,bP 9 .sub 3 6 8,aJ 1 9] [0,1] Yy
def YA:J:=U [a7 4 0] [0,1] Yz
theorem YB:bn ⟨27,[0]⟩ (Tryz.f36.body.getD .skip)=some YA.strip:=by kernel_rfl
def YC:J:=U [a7 4 (-1)] [4] .ret
def YD:J:=.cond (.t 10) YC .skip
def YE:J:=U [ad 11 1,aJ 4 11] [4] .ret
def YF:J:=.seq (U [ad 9 1,a_ 10 .lss 3 9 0] [1,10] YD) YE
def YG:J:=U [ad 5 1,ad 6 0,bX 7 46 6,bP 8 .sub 3 5 7,aJ 1 8] [1] YF
def YH:J:=U [a7 4 0] [0,1] YG
theorem YI:bn ⟨12,[0]⟩ (Tryz.f78.body.getD .skip)=some YH.strip:=by kernel_rfl
def YJ:J:=U [a7 4 (-1)] [4] .ret
def YK:J:=.cond (.t 10) YJ .skip
def YL:J:=U [ad 11 1,aJ 4 11] [4] .ret
def YM:J:=.seq (U [ad 9 1,a_ 10 .lss 3 9 0] [1,10] YK) YL
def YN:J:=U [a1 5 111 2 1,aP 6 46 5,ad 7 1,dD 8 78 6 7,aJ 1 8] [1] YM
def YO:J:=U [ro 2 (.da 111 (.t 0)),a7 4 0] [1,2] YN
theorem YP:bn ⟨12,[0]⟩ (Tryz.f76.body.getD .skip)=some YO.strip:=by kernel_rfl
def YQ:J:=U [a7 4 (-1)] [4] .ret
def YR:J:=.cond (.t 11) YQ .skip
def YS:J:=.cond (.t 15) .skip (.exit 0)
def YT:J:=U [a7 4 (-1)] [4] .ret
def YU:J:=.cond (.t 25) YT .skip
def YV:J:=U [ad 24 1,a_ 25 .lss 3 24 0] [0,1,5,25] YU
def YW:J:=.ca [ad 16 5,a_ 17 .add 3 16 1,aJ 5 17] (some [0,1,5])
def YX:J:=.seq (.block 1 (U [ad 18 0,ad 19 5,cn 20 23 18 19,aP 21 111 20,ad 22 1,dD 23 76 21 22,aJ 1 23] [0,1,5] YV)) YW
def NZ:J:=.seq (U [ad 12 5,ad 13 0,bX 14 23 13,bP 15 .lss 3 12 14] [0,1,5,15] YS) YX
def YY:J:=.block 0 (.loop NZ)
def YZ:J:=U [ad 26 1,aJ 4 26] [4] .ret
def Y0:J:=.seq (U [a7 5 0] [0,1,5] YY) YZ
def Y1:J:=.seq (U [ad 10 1,a_ 11 .lss 3 10 0] [0,1,11] YR) Y0
def Y2:J:=U [ad 6 1,ad 7 0,bX 8 23 7,bP 9 .sub 3 6 8,aJ 1 9] [0,1] Y1
def Y3:J:=U [a7 4 0] [0,1] Y2
theorem Y4:bn ⟨27,[0]⟩ (Tryz.f37.body.getD .skip)=some Y3.strip:=by kernel_rfl
def Y5:J:=U [a7 4 (-1)] [4] .ret
def Y6:J:=.cond (.t 11) Y5 .skip
def Y7:J:=U [a7 4 (-1)] [4] .ret
def Y8:J:=.cond (.t 18) Y7 .skip
def Y9:J:=U [a7 4 (-1)] [4] .ret
def Y_:J:=.cond (.t 25) Y9 .skip
def Za:J:=U [ad 26 1,aJ 4 26] [4] .ret
def Zb:J:=.seq (U [ad 24 1,a_ 25 .lss 3 24 0] [1,25] Y_) Za
def Zc:J:=U [ad 19 1,a1 20 114 2 2,aP 21 9 20,bX 22 9 21,bP 23 .sub 3 19 22,aJ 1 23] [1] Zb
def Zd:J:=.seq (U [ad 17 1,a_ 18 .lss 3 17 0] [1,2,18] Y8) Zc
def Ze:J:=U [ad 12 1,a1 13 114 2 1,aP 14 9 13,bX 15 9 14,bP 16 .sub 3 12 15,aJ 1 16] [1,2] Zd
def Zf:J:=.seq (U [ad 10 1,a_ 11 .lss 3 10 0] [1,2,11] Y6) Ze
def Zg:J:=U [ad 5 1,a1 6 114 2 0,aP 7 9 6,bX 8 9 7,bP 9 .sub 3 5 8,aJ 1 9] [1,2] Zf
def Zh:J:=U [ro 2 (.da 114 (.t 0)),a7 4 0] [1,2] Zg
theorem pv:bn ⟨27,[0]⟩ (Tryz.f77.body.getD .skip)=some Zh.strip:=by kernel_rfl
def Zi:J:=U [a7 4 (-1)] [4] .ret
def Zj:J:=.cond (.t 11) Zi .skip
def Zk:J:=.cond (.t 15) .skip (.exit 0)
def Zl:J:=U [a7 4 (-1)] [4] .ret
def Zm:J:=.cond (.t 25) Zl .skip
def Zn:J:=U [ad 24 1,a_ 25 .lss 3 24 0] [0,1,5,25] Zm
def Zo:J:=.ca [ad 16 5,a_ 17 .add 3 16 1,aJ 5 17] (some [0,1,5])
def Zp:J:=.seq (.block 1 (U [ad 18 0,ad 19 5,cn 20 24 18 19,aP 21 114 20,ad 22 1,dD 23 77 21 22,aJ 1 23] [0,1,5] Zn)) Zo
def N0:J:=.seq (U [ad 12 5,ad 13 0,bX 14 24 13,bP 15 .lss 3 12 14] [0,1,5,15] Zk) Zp
def Zq:J:=.block 0 (.loop N0)
def Zr:J:=U [ad 26 1,aJ 4 26] [4] .ret
def Zs:J:=.seq (U [a7 5 0] [0,1,5] Zq) Zr
def Zt:J:=.seq (U [ad 10 1,a_ 11 .lss 3 10 0] [0,1,11] Zj) Zs
def Zu:J:=U [ad 6 1,ad 7 0,bX 8 24 7,bP 9 .sub 3 6 8,aJ 1 9] [0,1] Zt
def Zv:J:=U [a7 4 0] [0,1] Zu
theorem Zw:bn ⟨27,[0]⟩ (Tryz.f38.body.getD .skip)=some Zv.strip:=by kernel_rfl
def Zx:J:=U [a7 4 (-1)] [4] .ret
def Zy:J:=.cond (.t 11) Zx .skip
def Zz:J:=.cond (.t 15) .skip (.exit 0)
def ZA:J:=U [a7 4 (-1)] [4] .ret
def ZB:J:=.cond (.t 26) ZA .skip
def ZC:J:=U [ad 25 1,a_ 26 .lss 3 25 0] [0,1,5,26] ZB
def ZD:J:=.ca [ad 16 5,a_ 17 .add 3 16 1,aJ 5 17] (some [0,1,5])
def ZE:J:=.seq (.block 1 (U [ad 18 1,ad 19 0,ad 20 5,cn 21 25 19 20,aP 22 9 21,bX 23 9 22,bP 24 .sub 3 18 23,aJ 1 24] [0,1,5] ZC)) ZD
def N1:J:=.seq (U [ad 12 5,ad 13 0,bX 14 25 13,bP 15 .lss 3 12 14] [0,1,5,15] Zz) ZE
def ZF:J:=.block 0 (.loop N1)
def ZG:J:=U [ad 27 1,aJ 4 27] [4] .ret
def ZH:J:=.seq (U [a7 5 0] [0,1,5] ZF) ZG
def ZI:J:=.seq (U [ad 10 1,a_ 11 .lss 3 10 0] [0,1,11] Zy) ZH
def ZJ:J:=U [ad 6 1,ad 7 0,bX 8 25 7,bP 9 .sub 3 6 8,aJ 1 9] [0,1] ZI
def ZK:J:=U [a7 4 0] [0,1] ZJ
theorem ZL:bn ⟨28,[0]⟩ (Tryz.f39.body.getD .skip)=some ZK.strip:=by kernel_rfl
def ZM:J:=U [a7 4 (-1)] [4] .ret
def ZN:J:=.cond (.t 10) ZM .skip
def ZO:J:=U [a7 4 (-1)] [4] .ret
def ZP:J:=.cond (.t 16) ZO .skip
def ZQ:J:=U [a7 4 (-1)] [4] .ret
def ZR:J:=.cond (.t 22) ZQ .skip
def ZS:J:=U [a7 4 (-1)] [4] .ret
def ZT:J:=.cond (.t 28) ZS .skip
def ZU:J:=U [a7 4 (-1)] [4] .ret
def ZV:J:=.cond (.t 34) ZU .skip
def ZW:J:=U [ad 35 1,aJ 4 35] [4] .ret
def ZX:J:=.seq (U [ad 33 1,a_ 34 .lss 3 33 0] [1,34] ZV) ZW
def ZY:J:=U [a1 29 27 2 4,aP 30 25 29,ad 31 1,dD 32 39 30 31,aJ 1 32] [1] ZX
def ZZ:J:=.seq (U [ad 27 1,a_ 28 .lss 3 27 0] [1,2,28] ZT) ZY
def Z0:J:=U [a1 23 27 2 3,aP 24 25 23,ad 25 1,dD 26 39 24 25,aJ 1 26] [1,2] ZZ
def Z1:J:=.seq (U [ad 21 1,a_ 22 .lss 3 21 0] [1,2,22] ZR) Z0
def Z2:J:=U [a1 17 27 2 2,aP 18 24 17,ad 19 1,dD 20 38 18 19,aJ 1 20] [1,2] Z1
def Z3:J:=.seq (U [ad 15 1,a_ 16 .lss 3 15 0] [1,2,16] ZP) Z2
def Z4:J:=U [a1 11 27 2 1,aP 12 23 11,ad 13 1,dD 14 37 12 13,aJ 1 14] [1,2] Z3
def Z5:J:=.seq (U [ad 9 1,a_ 10 .lss 3 9 0] [1,2,10] ZN) Z4
def Z6:J:=U [a1 5 27 2 0,aP 6 22 5,ad 7 1,dD 8 36 6 7,aJ 1 8] [1,2] Z5
def Gc:J:=U [ro 2 (.da 27 (.t 0)),a7 4 0] [1,2] Z6
theorem pw:bn ⟨36,[0]⟩ (Tryz.f8.body.getD .skip)=some Gc.strip:=by kernel_rfl
def Z7:J:=U [a7 4 (-1)] [4] .ret
def Z8:J:=.cond (.t 10) Z7 .skip
def Z9:J:=U [ad 11 1,aJ 4 11] [4] .ret
def Z_:J:=.seq (U [ad 9 1,a_ 10 .lss 3 9 0] [1,10] Z8) Z9
def aaa:J:=U [a1 5 73 2 2,aP 6 46 5,ad 7 1,dD 8 78 6 7,aJ 1 8] [1] Z_
def aab:J:=U [ro 2 (.da 73 (.t 0)),a7 4 0] [1,2] aaa
theorem aac:bn ⟨12,[0]⟩ (Tryz.f40.body.getD .skip)=some aab.strip:=by kernel_rfl
def aad:J:=U [a7 4 (-1)] [4] .ret
def aae:J:=.cond (.t 11) aad .skip
def aaf:J:=.cond (.t 15) .skip (.exit 0)
def aag:J:=U [a7 4 (-1)] [4] .ret
def aah:J:=.cond (.t 25) aag .skip
def aai:J:=U [ad 24 1,a_ 25 .lss 3 24 0] [0,1,5,25] aah
def aaj:J:=.ca [ad 16 5,a_ 17 .add 3 16 1,aJ 5 17] (some [0,1,5])
def aak:J:=.seq (.block 1 (U [ad 18 0,ad 19 5,cn 20 28 18 19,aP 21 73 20,ad 22 1,dD 23 40 21 22,aJ 1 23] [0,1,5] aai)) aaj
def N2:J:=.seq (U [ad 12 5,ad 13 0,bX 14 28 13,bP 15 .lss 3 12 14] [0,1,5,15] aaf) aak
def aal:J:=.block 0 (.loop N2)
def aam:J:=U [ad 26 1,aJ 4 26] [4] .ret
def aan:J:=.seq (U [a7 5 0] [0,1,5] aal) aam
def aao:J:=.seq (U [ad 10 1,a_ 11 .lss 3 10 0] [0,1,11] aae) aan
def aap:J:=U [ad 6 1,ad 7 0,bX 8 28 7,bP 9 .sub 3 6 8,aJ 1 9] [0,1] aao
def Gd:J:=U [a7 4 0] [0,1] aap
theorem nq:bn ⟨27,[0]⟩ (Tryz.f9.body.getD .skip)=some Gd.strip:=by kernel_rfl
def aaq:J:=U [aP 10 196 3,dW 196 2 10] [2] .ret
def aar:J:=U [a1 7 316 1 1,aP 8 2 7,a1 9 196 3 1,dW 2 9 8] [2,3] aaq
def aas:J:=U [a1 4 316 1 0,aP 5 2 4,a1 6 196 3 0,dW 2 6 5] [1,2,3] aar
def aat:J:=U [iF 3 196] [1,2,3] aas
def aau:J:=U [ro 1 (.da 316 (.t 0)),iF 2 196] [1,2] aat
theorem aav:bn ⟨11,[0]⟩ (Tryz.f298.body.getD .skip)=some aau.strip:=by kernel_rfl
def aaw:J:=.cond (.t 11) .skip (.exit 0)
def aax:J:=.ca [ad 12 4,a_ 13 .add 3 12 1,aJ 4 13] (some [0,3,4])
def aay:J:=.seq (.block 1 (.ca [ad 14 3,ad 15 4,ad 16 0,ad 17 4,cn 18 301 16 17,aP 19 316 18,dQ 20 298 19,cn 21 145 14 15,dW 196 21 20] (some [0,3,4]))) aax
def N3:J:=.seq (U [ad 8 4,ad 9 0,bX 10 301 9,bP 11 .lss 3 8 10] [0,3,4,11] aaw) aay
def aaz:J:=.block 0 (.loop N3)
def aaA:J:=U [ad 22 3,aJ 2 22] [2] .ret
def aaB:J:=.seq (U [a7 4 0] [0,3,4] aaz) aaA
def aaC:J:=U [ad 5 0,bX 6 301 5,ro 7 (.eS 145 (.t 6) (.t 6)),aJ 3 7] [0,3] aaB
def aaD:J:=U [j_ 2] [0] aaC
theorem aaE:bn ⟨23,[0]⟩ (Tryz.f284.body.getD .skip)=some aaD.strip:=by kernel_rfl
def aaF:J:=.cond (.t 11) .skip (.exit 0)
def aaG:J:=.ca [ad 12 4,a_ 13 .add 3 12 1,aJ 4 13] (some [0,3,4])
def aaH:J:=.seq (.block 1 (.ca [ad 14 3,ad 15 4,ad 16 0,ad 17 4,cn 18 218 16 17,aP 19 301 18,dQ 20 284 19,cn 21 146 14 15,dW 145 21 20] (some [0,3,4]))) aaG
def N4:J:=.seq (U [ad 8 4,ad 9 0,bX 10 218 9,bP 11 .lss 3 8 10] [0,3,4,11] aaF) aaH
def aaI:J:=.block 0 (.loop N4)
def aaJ:J:=U [ad 22 3,aJ 2 22] [2] .ret
def aaK:J:=.seq (U [a7 4 0] [0,3,4] aaI) aaJ
def aaL:J:=U [ad 5 0,bX 6 218 5,ro 7 (.eS 146 (.t 6) (.t 6)),aJ 3 7] [0,3] aaK
def aaM:J:=U [j_ 2] [0] aaL
theorem aaN:bn ⟨23,[0]⟩ (Tryz.f245.body.getD .skip)=some aaM.strip:=by kernel_rfl
def aaO:J:=U [aP 17 178 3,dW 178 2 17] [2] .ret
def aaP:J:=U [a1 13 220 1 3,aP 14 218 13,dQ 15 245 14,a1 16 178 3 3,dW 146 16 15] [2,3] aaO
def aaQ:J:=U [a1 10 220 1 2,aP 11 9 10,a1 12 178 3 2,dW 9 12 11] [1,2,3] aaP
def aaR:J:=U [a1 7 220 1 1,aP 8 2 7,a1 9 178 3 1,dW 2 9 8] [1,2,3] aaQ
def aaS:J:=U [a1 4 220 1 0,aP 5 2 4,a1 6 178 3 0,dW 2 6 5] [1,2,3] aaR
def aaT:J:=U [iF 3 178] [1,2,3] aaS
def aaU:J:=U [ro 1 (.da 220 (.t 0)),iF 2 178] [1,2] aaT
theorem aaV:bn ⟨18,[0]⟩ (Tryz.f186.body.getD .skip)=some aaU.strip:=by kernel_rfl
def aaW:J:=.cond (.t 11) .skip (.exit 0)
def aaX:J:=.ca [ad 12 4,a_ 13 .add 3 12 1,aJ 4 13] (some [0,3,4])
def aaY:J:=.seq (.block 1 (.ca [ad 14 3,ad 15 4,ad 16 0,ad 17 4,cn 18 107 16 17,aP 19 220 18,dQ 20 186 19,cn 21 119 14 15,dW 178 21 20] (some [0,3,4]))) aaX
def N5:J:=.seq (U [ad 8 4,ad 9 0,bX 10 107 9,bP 11 .lss 3 8 10] [0,3,4,11] aaW) aaY
def aaZ:J:=.block 0 (.loop N5)
def aa0:J:=U [ad 22 3,aJ 2 22] [2] .ret
def aa1:J:=.seq (U [a7 4 0] [0,3,4] aaZ) aa0
def aa2:J:=U [ad 5 0,bX 6 107 5,ro 7 (.eS 119 (.t 6) (.t 6)),aJ 3 7] [0,3] aa1
def aa3:J:=U [j_ 2] [0] aa2
theorem aa4:bn ⟨23,[0]⟩ (Tryz.f139.body.getD .skip)=some aa3.strip:=by kernel_rfl
def aa5:J:=U [aP 14 121 3,dW 121 2 14] [2] .ret
def aa6:J:=U [a1 10 109 1 2,aP 11 107 10,dQ 12 139 11,a1 13 121 3 2,dW 119 13 12] [2,3] aa5
def aa7:J:=U [a1 7 109 1 1,aP 8 2 7,a1 9 121 3 1,dW 2 9 8] [1,2,3] aa6
def aa8:J:=U [a1 4 109 1 0,aP 5 9 4,a1 6 121 3 0,dW 9 6 5] [1,2,3] aa7
def aa9:J:=U [iF 3 121] [1,2,3] aa8
def aa_:J:=U [ro 1 (.da 109 (.t 0)),iF 2 121] [1,2] aa9
theorem aba:bn ⟨15,[0]⟩ (Tryz.f83.body.getD .skip)=some aa_.strip:=by kernel_rfl
def abb:J:=.cond (.t 11) .skip (.exit 0)
def abc:J:=.ca [ad 12 4,a_ 13 .add 3 12 1,aJ 4 13] (some [0,3,4])
def abd:J:=.seq (.block 1 (.ca [ad 14 3,ad 15 4,ad 16 0,ad 17 4,cn 18 22 16 17,aP 19 109 18,dQ 20 83 19,cn 21 34 14 15,dW 121 21 20] (some [0,3,4]))) abc
def N6:J:=.seq (U [ad 8 4,ad 9 0,bX 10 22 9,bP 11 .lss 3 8 10] [0,3,4,11] abb) abd
def abe:J:=.block 0 (.loop N6)
def abf:J:=U [ad 22 3,aJ 2 22] [2] .ret
def abg:J:=.seq (U [a7 4 0] [0,3,4] abe) abf
def abh:J:=U [ad 5 0,bX 6 22 5,ro 7 (.eS 34 (.t 6) (.t 6)),aJ 3 7] [0,3] abg
def abi:J:=U [j_ 2] [0] abh
theorem abj:bn ⟨23,[0]⟩ (Tryz.f44.body.getD .skip)=some abi.strip:=by kernel_rfl
def abk:J:=.cond (.t 11) .skip (.exit 0)
def abl:J:=.ca [ad 12 4,a_ 13 .add 3 12 1,aJ 4 13] (some [0,3,4])
def abm:J:=.seq (.block 1 (.ca [ad 14 3,ad 15 4,ad 16 0,ad 17 4,cn 18 46 16 17,aP 19 2 18,cn 20 46 14 15,dW 2 20 19] (some [0,3,4]))) abl
def N7:J:=.seq (U [ad 8 4,ad 9 0,bX 10 46 9,bP 11 .lss 3 8 10] [0,3,4,11] abk) abm
def abn:J:=.block 0 (.loop N7)
def abo:J:=U [ad 21 3,aJ 2 21] [2] .ret
def abp:J:=.seq (U [a7 4 0] [0,3,4] abn) abo
def abq:J:=U [ad 5 0,bX 6 46 5,ro 7 (.eS 46 (.t 6) (.t 6)),aJ 3 7] [0,3] abp
def abr:J:=U [j_ 2] [0] abq
theorem uw:bn ⟨22,[0]⟩ (Tryz.f25.body.getD .skip)=some abr.strip:=by kernel_rfl
def abt:J:=U [aP 11 100 3,dW 100 2 11] [2] .ret
def abu:J:=U [a1 7 111 1 1,aP 8 46 7,dQ 9 25 8,a1 10 100 3 1,dW 46 10 9] [2,3] abt
def abv:J:=U [a1 4 111 1 0,aP 5 2 4,a1 6 100 3 0,dW 2 6 5] [1,2,3] abu
def abw:J:=U [iF 3 100] [1,2,3] abv
def abx:J:=U [ro 1 (.da 111 (.t 0)),iF 2 100] [1,2] abw
theorem aby:bn ⟨12,[0]⟩ (Tryz.f84.body.getD .skip)=some abx.strip:=by kernel_rfl
def abz:J:=.cond (.t 11) .skip (.exit 0)
def abA:J:=.ca [ad 12 4,a_ 13 .add 3 12 1,aJ 4 13] (some [0,3,4])
def abB:J:=.seq (.block 1 (.ca [ad 14 3,ad 15 4,ad 16 0,ad 17 4,cn 18 23 16 17,aP 19 111 18,dQ 20 84 19,cn 21 35 14 15,dW 100 21 20] (some [0,3,4]))) abA
def N8:J:=.seq (U [ad 8 4,ad 9 0,bX 10 23 9,bP 11 .lss 3 8 10] [0,3,4,11] abz) abB
def abC:J:=.block 0 (.loop N8)
def abD:J:=U [ad 22 3,aJ 2 22] [2] .ret
def abE:J:=.seq (U [a7 4 0] [0,3,4] abC) abD
def abF:J:=U [ad 5 0,bX 6 23 5,ro 7 (.eS 35 (.t 6) (.t 6)),aJ 3 7] [0,3] abE
def abG:J:=U [j_ 2] [0] abF
theorem abH:bn ⟨23,[0]⟩ (Tryz.f45.body.getD .skip)=some abG.strip:=by kernel_rfl
def abI:J:=U [aP 13 124 3,dW 124 2 13] [2] .ret
def abJ:J:=U [a1 10 114 1 2,aP 11 9 10,a1 12 124 3 2,dW 9 12 11] [2,3] abI
def abK:J:=U [a1 7 114 1 1,aP 8 9 7,a1 9 124 3 1,dW 9 9 8] [1,2,3] abJ
def abL:J:=U [a1 4 114 1 0,aP 5 9 4,a1 6 124 3 0,dW 9 6 5] [1,2,3] abK
def abM:J:=U [iF 3 124] [1,2,3] abL
def abN:J:=U [ro 1 (.da 114 (.t 0)),iF 2 124] [1,2] abM
theorem abO:bn ⟨14,[0]⟩ (Tryz.f85.body.getD .skip)=some abN.strip:=by kernel_rfl
def abP:J:=.cond (.t 11) .skip (.exit 0)
def abQ:J:=.ca [ad 12 4,a_ 13 .add 3 12 1,aJ 4 13] (some [0,3,4])
def abR:J:=.seq (.block 1 (.ca [ad 14 3,ad 15 4,ad 16 0,ad 17 4,cn 18 24 16 17,aP 19 114 18,dQ 20 85 19,cn 21 36 14 15,dW 124 21 20] (some [0,3,4]))) abQ
def N9:J:=.seq (U [ad 8 4,ad 9 0,bX 10 24 9,bP 11 .lss 3 8 10] [0,3,4,11] abP) abR
def abS:J:=.block 0 (.loop N9)
def abT:J:=U [ad 22 3,aJ 2 22] [2] .ret
def abU:J:=.seq (U [a7 4 0] [0,3,4] abS) abT
def abV:J:=U [ad 5 0,bX 6 24 5,ro 7 (.eS 36 (.t 6) (.t 6)),aJ 3 7] [0,3] abU
def abW:J:=U [j_ 2] [0] abV
theorem abX:bn ⟨23,[0]⟩ (Tryz.f46.body.getD .skip)=some abW.strip:=by kernel_rfl
def abY:J:=.cond (.t 11) .skip (.exit 0)
def abZ:J:=.ca [ad 12 4,a_ 13 .add 3 12 1,aJ 4 13] (some [0,3,4])
def ab0:J:=.seq (.block 1 (.ca [ad 14 3,ad 15 4,ad 16 0,ad 17 4,cn 18 25 16 17,aP 19 9 18,cn 20 25 14 15,dW 9 20 19] (some [0,3,4]))) abZ
def N_:J:=.seq (U [ad 8 4,ad 9 0,bX 10 25 9,bP 11 .lss 3 8 10] [0,3,4,11] abY) ab0
def ab1:J:=.block 0 (.loop N_)
def ab2:J:=U [ad 21 3,aJ 2 21] [2] .ret
def ab3:J:=.seq (U [a7 4 0] [0,3,4] ab1) ab2
def ab4:J:=U [ad 5 0,bX 6 25 5,ro 7 (.eS 25 (.t 6) (.t 6)),aJ 3 7] [0,3] ab3
def ab5:J:=U [j_ 2] [0] ab4
theorem ux:bn ⟨22,[0]⟩ (Tryz.f47.body.getD .skip)=some ab5.strip:=by kernel_rfl
def ab6:J:=U [aP 24 38 3,dW 38 2 24] [2] .ret
def ab7:J:=U [a1 20 27 1 4,aP 21 25 20,dQ 22 47 21,a1 23 38 3 4,dW 25 23 22] [2,3] ab6
def ab8:J:=U [a1 16 27 1 3,aP 17 25 16,dQ 18 47 17,a1 19 38 3 3,dW 25 19 18] [1,2,3] ab7
def ab9:J:=U [a1 12 27 1 2,aP 13 24 12,dQ 14 46 13,a1 15 38 3 2,dW 36 15 14] [1,2,3] ab8
def ab_:J:=U [a1 8 27 1 1,aP 9 23 8,dQ 10 45 9,a1 11 38 3 1,dW 35 11 10] [1,2,3] ab9
def aca:J:=U [a1 4 27 1 0,aP 5 22 4,dQ 6 44 5,a1 7 38 3 0,dW 34 7 6] [1,2,3] ab_
def acb:J:=U [iF 3 38] [1,2,3] aca
def acd:J:=U [ro 1 (.da 27 (.t 0)),iF 2 38] [1,2] acb
theorem wS:bn ⟨25,[0]⟩ (Tryz.f11.body.getD .skip)=some acd.strip:=by kernel_rfl
def ace:J:=U [aP 14 82 3,dW 82 2 14] [2] .ret
def acf:J:=U [a1 10 73 1 2,aP 11 46 10,dQ 12 25 11,a1 13 82 3 2,dW 46 13 12] [2,3] ace
def acg:J:=U [a1 7 73 1 1,aP 8 2 7,a1 9 82 3 1,dW 2 9 8] [1,2,3] acf
def ach:J:=U [a1 4 73 1 0,aP 5 2 4,a1 6 82 3 0,dW 2 6 5] [1,2,3] acg
def aci:J:=U [iF 3 82] [1,2,3] ach
def acj:J:=U [ro 1 (.da 73 (.t 0)),iF 2 82] [1,2] aci
theorem ack:bn ⟨15,[0]⟩ (Tryz.f48.body.getD .skip)=some acj.strip:=by kernel_rfl
def acm:J:=.cond (.t 11) .skip (.exit 0)
def acn:J:=.ca [ad 12 4,a_ 13 .add 3 12 1,aJ 4 13] (some [0,3,4])
def aco:J:=.seq (.block 1 (.ca [ad 14 3,ad 15 4,ad 16 0,ad 17 4,cn 18 28 16 17,aP 19 73 18,dQ 20 48 19,cn 21 31 14 15,dW 82 21 20] (some [0,3,4]))) acn
def Oa:J:=.seq (U [ad 8 4,ad 9 0,bX 10 28 9,bP 11 .lss 3 8 10] [0,3,4,11] acm) aco
def acp:J:=.block 0 (.loop Oa)
def acq:J:=U [ad 22 3,aJ 2 22] [2] .ret
def acr:J:=.seq (U [a7 4 0] [0,3,4] acp) acq
def acs:J:=U [ad 5 0,bX 6 28 5,ro 7 (.eS 31 (.t 6) (.t 6)),aJ 3 7] [0,3] acr
def acu:J:=U [j_ 2] [0] acs
theorem wT:bn ⟨23,[0]⟩ (Tryz.f12.body.getD .skip)=some acu.strip:=by kernel_rfl
def acv:J:=U [ad 3 0,ro 4 (.ck .geq 5 (.t 3) (.c (.int .u8 97))),ad 5 4,bw 6 5 (.ct (.t 0)),bw 7 5 (.ck .leq 5 (.t 6) (.c (.int .u8 122))),ro 8 (.pick (.t 5) (.t 7) (.c (.bool false))),aJ 2 8] [2] .ret
def acw:J:=U [bx 2 false] [0] acv
theorem acx:bn ⟨9,[0]⟩ (Tryz.f240.body.getD .skip)=some acw.strip:=by kernel_rfl
def acy:J:=U [ad 3 0,ro 4 (.ck .geq 5 (.t 3) (.c (.int .u8 48))),ad 5 4,bw 6 5 (.ct (.t 0)),bw 7 5 (.ck .leq 5 (.t 6) (.c (.int .u8 57))),ro 8 (.pick (.t 5) (.t 7) (.c (.bool false))),aJ 2 8] [2] .ret
def acz:J:=U [bx 2 false] [0] acy
theorem acA:bn ⟨9,[0]⟩ (Tryz.f241.body.getD .skip)=some acz.strip:=by kernel_rfl
def acB:J:=U [bx 2 false] [2] .ret
def acC:J:=.cond (.t 16) acB .skip
def acD:J:=.cond (.t 20) .skip (.exit 0)
def acE:J:=U [bx 2 false] [2] .ret
def acF:J:=.cond (.t 34) acE .skip
def acG:J:=.ca [ad 21 3,a_ 22 .add 3 21 1,aJ 3 22] (some [0,3])
def acH:J:=.seq (.block 1 (U [ad 23 0,ad 24 3,MY 25 9 23 24,dQ 26 240 25,eH 27 26,ad 28 27,bw 29 28 (.ct (.t 0)),bw 30 28 (.ct (.t 3)),bw 31 28 (.idx 9 (.t 29) (.t 30)),⟨some 32,.call (.f 241) [(.t 31)],some (28,true)⟩,bw 33 28 (.un .not (.t 32)),ro 34 (.pick (.t 28) (.t 33) (.c (.bool false)))] [0,3,34] acF)) acG
def Ob:J:=.seq (U [ad 17 3,ad 18 0,bX 19 9 18,bP 20 .lss 3 17 19] [0,3,20] acD) acH
def acI:J:=.block 0 (.loop Ob)
def acJ:J:=U [bx 2 true] [2] .ret
def acK:J:=.seq (U [a7 3 0] [0,3] acI) acJ
def acL:J:=.seq (U [ad 4 0,ro 5 (.ck .eql 9 (.t 4) (.c (.str []))),ad 6 5,bo 7 6 (.ct (.t 0)),bo 8 6 (.len 9 (.t 7)),bo 9 6 (.ck .gtr 3 (.t 8) (.c (.int .i64 10))),ro 10 (.pick (.t 6) (.c (.bool true)) (.t 9)),ad 11 10,bo 12 11 (.ct (.t 0)),bo 13 11 (.idx 9 (.t 12) (.c (.int .i64 0))),⟨some 14,.call (.f 240) [(.t 13)],some (11,false)⟩,bo 15 11 (.un .not (.t 14)),ro 16 (.pick (.t 11) (.c (.bool true)) (.t 15))] [0,16] acC) acK
def acM:J:=U [bx 2 false] [0] acL
theorem acN:bn ⟨35,[0]⟩ (Tryz.f181.body.getD .skip)=some acM.strip:=by kernel_rfl
def acO:J:=U [ad 7 0,ad 8 1,bP 9 .geq 2 7 8,ad 10 9,bw 11 10 (.ct (.t 0)),bw 12 10 (.ct (.t 2)),bw 13 10 (.ck .leq 2 (.t 11) (.t 12)),ro 14 (.pick (.t 10) (.t 13) (.c (.bool false))),aJ 6 14] [6] .ret
def acP:J:=U [bx 6 false] [0,1,2] acO
theorem acQ:bn ⟨15,[0,1,2]⟩ (Tryz.f61.body.getD .skip)=some acP.strip:=by kernel_rfl
def acR:J:=.ca [a_ 10 .eql 2 6 4,aJ 7 10] (some [6,7])
def acS:J:=.cond (.t 7) .skip acR
def acT:J:=U [a_ 9 .eql 2 6 3,aJ 7 9] [6,7] acS
def acU:J:=.cond (.t 7) .skip acT
def acV:J:=U [a7 2 1] [2] .ret
def acW:J:=U [a7 2 2] [2] .ret
def acX:J:=.cond (.t 11) acW .skip
def acY:J:=U [a_ 12 .eql 2 6 2,aJ 11 12] [11] acX
def Oc:J:=.cond (.t 7) acV acY
def acZ:J:=.block 0 (.seq (U [a_ 8 .eql 2 6 1,aJ 7 8] [6,7] acU) Oc)
def ac0:J:=U [a7 2 0] [2] .ret
def ac1:J:=.seq (U [ad 3 0,gQ 4 3,a1 5 178 4 0,aP 6 2 5] [6] acZ) ac0
def ac2:J:=U [a7 2 0] [0] ac1
theorem ac3:bn ⟨13,[0]⟩ (Tryz.f244.body.getD .skip)=some ac2.strip:=by kernel_rfl
def ac4:J:=U [bx 2 false] [2] .ret
def ac5:J:=.cond (.t 12) ac4 .skip
def ac6:J:=.cond (.t 16) .skip (.exit 0)
def ac7:J:=U [bx 2 false] [2] .ret
def ac8:J:=.cond (.t 20) ac7 .skip
def ac9:J:=.ca [ad 21 3,ad 22 0,ad 23 4,cn 24 119 22 23,dQ 25 244 24,a_ 26 .sub 2 25 1,bP 27 .add 2 21 26,aJ 3 27] (some [0,3,4])
def ac_:J:=.ca [ad 17 4,a_ 18 .add 3 17 1,aJ 4 18] (some [0,3,4])
def ada:J:=.seq (.block 1 (.seq (U [ad 19 3,a_ 20 .eql 2 19 0] [0,3,4,20] ac8) ac9)) ac_
def Od:J:=.seq (U [ad 13 4,ad 14 0,bX 15 119 14,bP 16 .lss 3 13 15] [0,3,4,16] ac6) ada
def adb:J:=.block 0 (.loop Od)
def ade:J:=U [ad 28 3,a_ 29 .eql 2 28 0,aJ 2 29] [2] .ret
def adf:J:=.seq (U [a7 4 0] [0,3,4] adb) ade
def adg:J:=U [a7 3 1] [0,3] adf
def adh:J:=.seq (U [ad 5 0,bX 6 119 5,a_ 7 .eql 3 6 0,ad 8 7,bo 9 8 (.ct (.t 0)),bo 10 8 (.len 119 (.t 9)),bo 11 8 (.ck .gtr 3 (.t 10) (.c (.int .i64 20))),ro 12 (.pick (.t 8) (.c (.bool true)) (.t 11))] [0,12] ac5) adg
def adi:J:=U [bx 2 false] [0] adh
theorem adj:bn ⟨30,[0]⟩ (Tryz.f242.body.getD .skip)=some adi.strip:=by kernel_rfl
def adk:J:=.ca [a_ 9 .eql 2 6 2,aJ 7 9] (some [0,6,7])
def adl:J:=.cond (.t 7) .skip adk
def adm:J:=U [ad 10 0,gQ 11 10,a1 12 178 11 1,aP 13 2 12,a_ 14 .eql 2 13 0,ad 15 14,bw 16 15 (.ct (.t 0)),bw 17 15 (.ga (.t 16)),bw 18 15 (.c1 178 (.t 17) 2),bw 19 15 (.ld 9 (.t 18)),⟨some 20,.ck .eql 9 (.t 19) (.c (.str [])),some (15,true)⟩,ro 21 (.pick (.t 15) (.t 20) (.c (.bool false))),ad 22 21,bw 23 22 (.ct (.t 0)),bw 24 22 (.ga (.t 23)),bw 25 22 (.c1 178 (.t 24) 3),bw 26 22 (.ld 146 (.t 25)),bw 27 22 (.len 146 (.t 26)),bw 28 22 (.ck .eql 3 (.t 27) (.c (.int .i64 0))),ro 29 (.pick (.t 22) (.t 28) (.c (.bool false))),aJ 2 29] [2] .ret
def adn:J:=U [ad 32 0,gQ 33 32,a1 34 178 33 1,aP 35 2 34,a_ 36 .eql 2 35 0,aJ 2 36] [2] .ret
def ado:J:=U [ad 39 0,gQ 40 39,a1 41 178 40 1,aP 42 2 41,a_ 43 .eql 2 42 0,ad 44 43,bw 45 44 (.ct (.t 0)),bw 46 44 (.ga (.t 45)),bw 47 44 (.c1 178 (.t 46) 2),bw 48 44 (.ld 9 (.t 47)),⟨some 49,.ck .eql 9 (.t 48) (.c (.str [])),some (44,true)⟩,ro 50 (.pick (.t 44) (.t 49) (.c (.bool false))),aJ 2 50] [2] .ret
def adp:J:=U [ad 53 0,gQ 54 53,a1 55 178 54 2,aP 56 9 55,ro 57 (.ck .eql 9 (.t 56) (.c (.str []))),ad 58 57,bw 59 58 (.ct (.t 0)),bw 60 58 (.ga (.t 59)),bw 61 58 (.c1 178 (.t 60) 3),bw 62 58 (.ld 146 (.t 61)),bw 63 58 (.len 146 (.t 62)),bw 64 58 (.ck .eql 3 (.t 63) (.c (.int .i64 0))),ro 65 (.pick (.t 58) (.t 64) (.c (.bool false))),aJ 2 65] [2] .ret
def adq:J:=U [ad 68 0,gQ 69 68,a1 70 178 69 2,aP 71 9 70,ro 72 (.ck .eql 9 (.t 71) (.c (.str []))),aJ 2 72] [2] .ret
def adr:J:=.cond (.t 66) adq .skip
def ads:J:=U [a_ 67 .eql 2 6 5,aJ 66 67] [0,66] adr
def adt:J:=.cond (.t 51) adp ads
def adu:J:=U [a_ 52 .eql 2 6 4,aJ 51 52] [0,6,51] adt
def adv:J:=.cond (.t 37) ado adu
def adw:J:=U [a_ 38 .eql 2 6 3,aJ 37 38] [0,6,37] adv
def adx:J:=.cond (.t 30) adn adw
def ady:J:=U [a_ 31 .eql 2 6 1,aJ 30 31] [0,6,30] adx
def Oe:J:=.cond (.t 7) adm ady
def adz:J:=.block 0 (.seq (U [a_ 8 .eql 2 6 0,aJ 7 8] [0,6,7] adl) Oe)
def adA:J:=U [bx 2 false] [2] .ret
def adB:J:=.seq (U [ad 3 0,gQ 4 3,a1 5 178 4 0,aP 6 2 5] [0,6] adz) adA
def adC:J:=U [bx 2 false] [0] adB
theorem adD:bn ⟨73,[0]⟩ (Tryz.f283.body.getD .skip)=some adC.strip:=by kernel_rfl
def adE:J:=.cond (.t 7) .skip (.exit 0)
def adF:J:=.ca [ad 15 1,a_ 16 .add 2 15 1,aJ 1 16] (some [0,1,5])
def adG:J:=.block 1 (U [ad 8 5,ad 9 0,ad 10 1,cn 11 119 9 10,dQ 12 244 11,a_ 13 .sub 2 12 1,bP 14 .add 2 8 13,aJ 5 14] [0,1,5] adF)
def Of:J:=.seq (U [ad 6 5,a_ 7 .gtr 2 6 0] [0,1,5,7] adE) adG
def adH:J:=U [ad 17 1,aJ 4 17] [4] .ret
def adI:J:=.seq (.block 0 (.loop Of)) adH
def adJ:J:=U [a7 5 1] [0,1,5] adI
def adK:J:=U [a7 4 0] [0,1] adJ
theorem adL:bn ⟨18,[0]⟩ (Tryz.f185.body.getD .skip)=some adK.strip:=by kernel_rfl
def adM:J:=.cond (.t 13) .skip (.exit 0)
def adN:J:=.ca [ad 35 5,a_ 36 .add 2 35 1,aJ 5 36] (some [0,1,5,6])
def adO:J:=.cond (.t 34) adN .skip
def Og:J:=.ca [ad 14 6,a_ 15 .add 2 14 1,aJ 6 15] (some [0,1,5,6])
def adP:J:=.seq (.block 1 (U [ad 16 0,gQ 17 16,a1 18 121 17 2,aP 19 119 18,ad 20 6,cn 21 119 19 20,a1 22 178 21 0,aP 23 2 22,a_ 24 .eql 2 23 4,ad 25 24,bw 26 25 (.ct (.t 0)),bw 27 25 (.ga (.t 26)),bw 28 25 (.c1 121 (.t 27) 2),bw 29 25 (.ld 119 (.t 28)),bw 30 25 (.ct (.t 6)),⟨some 31,.call (.f 185) [(.t 29),(.t 30)],some (25,true)⟩,bw 32 25 (.ct (.t 1)),bw 33 25 (.ck .gtr 2 (.t 31) (.t 32)),ro 34 (.pick (.t 25) (.t 33) (.c (.bool false)))] [0,1,5,6,34] adO)) Og
def Oh:J:=.seq (U [ad 11 6,ad 12 1,bP 13 .lss 2 11 12] [0,1,5,6,13] adM) adP
def adQ:J:=.block 0 (.loop Oh)
def adR:J:=U [ad 37 5,aJ 4 37] [4] .ret
def adS:J:=.seq (U [a7 6 0] [0,1,5,6] adQ) adR
def adT:J:=U [ad 7 0,gQ 8 7,a1 9 121 8 1,aP 10 2 9,aJ 5 10] [0,1,5] adS
def adU:J:=U [a7 4 0] [0,1] adT
theorem adV:bn ⟨38,[0,1]⟩ (Tryz.f136.body.getD .skip)=some adU.strip:=by kernel_rfl
def adW:J:=U [ad 11 0,gQ 12 11,a1 13 196 12 1,aP 14 2 13,ro 15 (.call (.f 61) [(.t 14),(.c (.int .i64 0)),(.c (.int .i64 63))]),aJ 4 15] [4] .ret
def adX:J:=U [ad 18 0,gQ 19 18,a1 20 196 19 1,aP 21 2 20,ad 22 1,a_ 23 .sub 2 22 1,ro 24 (.call (.f 61) [(.t 21),(.c (.int .i64 0)),(.t 23)]),aJ 4 24] [4] .ret
def adY:J:=U [ad 27 0,gQ 28 27,a1 29 196 28 1,aP 30 2 29,ro 31 (.call (.f 61) [(.t 30),(.c (.int .i64 0)),(.c (.int .i64 8))]),aJ 4 31] [4] .ret
def adZ:J:=U [ad 34 0,gQ 35 34,a1 36 196 35 1,aP 37 2 36,a_ 38 .eql 2 37 0,aJ 4 38] [4] .ret
def ad0:J:=.cond (.t 32) adZ .skip
def ad1:J:=U [a_ 33 .eql 2 8 3,aJ 32 33] [0,32] ad0
def ad2:J:=.cond (.t 25) adY ad1
def ad3:J:=U [a_ 26 .eql 2 8 2,aJ 25 26] [0,8,25] ad2
def ad4:J:=.cond (.t 16) adX ad3
def ad5:J:=U [a_ 17 .eql 2 8 1,aJ 16 17] [0,1,8,16] ad4
def ad6:J:=.cond (.t 9) adW ad5
def ad7:J:=.block 0 (U [a_ 10 .eql 2 8 0,aJ 9 10] [0,1,8,9] ad6)
def ad8:J:=U [bx 4 false] [4] .ret
def ad9:J:=.seq (U [ad 5 0,gQ 6 5,a1 7 196 6 0,aP 8 2 7] [0,1,8] ad7) ad8
def ad_:J:=U [bx 4 false] [0,1] ad9
theorem aea:bn ⟨39,[0,1]⟩ (Tryz.f252.body.getD .skip)=some ad_.strip:=by kernel_rfl
def aeb:J:=U [a7 2 2] [2] .ret
def aec:J:=U [a7 2 1] [2] .ret
def aed:J:=.cond (.t 9) aec .skip
def aee:J:=U [a_ 10 .eql 2 6 3,aJ 9 10] [9] aed
def aef:J:=.cond (.t 7) aeb aee
def aeg:J:=.block 0 (U [a_ 8 .eql 2 6 2,aJ 7 8] [6,7] aef)
def aeh:J:=U [a7 2 0] [2] .ret
def aei:J:=.seq (U [ad 3 0,gQ 4 3,a1 5 196 4 0,aP 6 2 5] [6] aeg) aeh
def aej:J:=U [a7 2 0] [0] aei
theorem aek:bn ⟨11,[0]⟩ (Tryz.f253.body.getD .skip)=some aej.strip:=by kernel_rfl
def ael:J:=U [bx 6 false] [6] .ret
def aem:J:=.cond (.t 12) ael .skip
def aen:J:=.cond (.t 16) .skip (.exit 0)
def aeo:J:=U [bx 6 false] [6] .ret
def aep:J:=.cond (.t 28) aeo .skip
def aeq:J:=.ca [ad 29 7,ad 30 0,ad 31 8,cn 32 145 30 31,dQ 33 253 32,a_ 34 .sub 2 33 1,bP 35 .add 2 29 34,aJ 7 35] (some [0,1,7,8])
def aer:J:=.ca [ad 17 8,a_ 18 .add 3 17 1,aJ 8 18] (some [0,1,7,8])
def aes:J:=.seq (.block 1 (.seq (U [ad 19 7,a_ 20 .eql 2 19 0,ad 21 20,bo 22 21 (.ct (.t 0)),bo 23 21 (.ct (.t 8)),bo 24 21 (.fc 145 (.t 22) (.t 23)),bo 25 21 (.ct (.t 1)),⟨some 26,.call (.f 252) [(.t 24),(.t 25)],some (21,false)⟩,bo 27 21 (.un .not (.t 26)),ro 28 (.pick (.t 21) (.c (.bool true)) (.t 27))] [0,1,7,8,28] aep) aeq)) aer
def Oi:J:=.seq (U [ad 13 8,ad 14 0,bX 15 145 14,bP 16 .lss 3 13 15] [0,1,7,8,16] aen) aes
def aet:J:=.block 0 (.loop Oi)
def aeu:J:=U [ad 36 7,a_ 37 .eql 2 36 0,aJ 6 37] [6] .ret
def aev:J:=.seq (U [a7 8 0] [0,1,7,8] aet) aeu
def aew:J:=U [a7 7 1] [0,1,7] aev
def aex:J:=.seq (U [ad 9 0,bX 10 145 9,ad 11 2,bP 12 .gtr 2 10 11] [0,1,12] aem) aew
def aey:J:=U [bx 6 false] [0,1,2] aex
theorem aez:bn ⟨38,[0,1,2]⟩ (Tryz.f206.body.getD .skip)=some aey.strip:=by kernel_rfl
def aeA:J:=U [a7 6 2] [6] .ret
def aeB:J:=.cond (.t 19) aeA .skip
def aeC:J:=U [a7 6 3] [6] .ret
def Oj:J:=.cond (.t 28) aeC .skip
def aeD:J:=U [a7 6 4] [6] .ret
def Ol:J:=.cond (.t 51) aeD .skip
def aeE:J:=U [a7 6 5] [6] .ret
def aeF:J:=.cond (.t 69) aeE .skip
def aeG:J:=U [ad 59 8,a_ 60 .gtr 2 59 2,ad 61 60,bo 62 61 (.ct (.t 8)),bo 63 61 (.ck .gtr 2 (.t 62) (.c (.int .i64 0))),bo 64 61 (.ct (.t 63)),bw 65 64 (.c1 178 (.t 7) 2),bw 66 64 (.ld 9 (.t 65)),⟨some 67,.ck .eql 9 (.t 66) (.c (.str [116,97,117])),some (64,true)⟩,bo 68 61 (.pick (.t 64) (.t 67) (.c (.bool false))),ro 69 (.pick (.t 61) (.c (.bool true)) (.t 68))] [1,2,7,8,69] aeF
def aeH:J:=U [a7 6 5] [6] .ret
def aeI:J:=.cond (.t 73) aeH .skip
def aeJ:J:=U [ad 72 8,a_ 73 .neq 2 72 1] [1,2,7,8,73] aeI
def aeK:J:=U [a7 6 5] [6] .ret
def aeL:J:=.cond (.t 83) aeK .skip
def aeM:J:=U [ad 76 8,ad 77 0,a1 78 178 7 1,aP 79 2 78,cn 80 34 77 79,a1 81 121 80 1,aP 82 2 81,bP 83 .neq 2 76 82] [1,2,7,8,83] aeL
def aeN:J:=.cond (.t 74) aeM .skip
def aeO:J:=U [a_ 75 .eql 2 56 5,aJ 74 75] [0,1,2,7,8,74] aeN
def aeP:J:=.cond (.t 70) aeJ aeO
def aeQ:J:=U [a_ 71 .eql 2 56 3,aJ 70 71] [0,1,2,7,8,56,70] aeP
def aeR:J:=.cond (.t 57) aeG aeQ
def aeS:J:=.block 0 (U [a_ 58 .eql 2 56 1,aJ 57 58] [0,1,2,7,8,56,57] aeR)
def aeT:J:=U [a7 6 6] [6] .ret
def Om:J:=.cond (.t 102) aeT .skip
def aeU:J:=U [a7 6 7] [6] .ret
def aeV:J:=.cond (.t 112) aeU .skip
def aeW:J:=.cond (.t 115) .skip (.exit 1)
def aeX:J:=U [a7 6 8] [6] .ret
def aeY:J:=.cond (.t 125) aeX .skip
def aeZ:J:=.ca [ad 116 10,a_ 117 .add 2 116 1,aJ 10 117] (some [7,8,9,10])
def ae0:J:=.seq (.block 2 (U [a1 118 178 7 3,aP 119 146 118,ad 120 10,cn 121 146 119 120,aP 122 145 121,ad 123 9,ro 124 (.call (.f 206) [(.t 122),(.t 123),(.c (.int .i64 15))]),eH 125 124] [7,8,9,10,125] aeY)) aeZ
def On:J:=.seq (U [ad 113 10,ad 114 8,bP 115 .lss 2 113 114] [7,8,9,10,115] aeW) ae0
def ae1:J:=.block 1 (.loop On)
def ae2:J:=U [a7 6 0] [6] .ret
def ae3:J:=.seq (U [a7 10 0] [7,8,9,10] ae1) ae2
def ae4:J:=.seq (U [a1 106 178 7 0,aP 107 2 106,a_ 108 .eql 2 107 4,ad 109 108,bw 110 109 (.ct (.t 9)),bw 111 109 (.ck .geq 2 (.t 110) (.c (.int .i64 6))),ro 112 (.pick (.t 109) (.t 111) (.c (.bool false)))] [7,8,9,112] aeV) ae3
def ae5:J:=U [ad 103 1,ad 104 2,dD 105 136 103 104,aJ 9 105] [7,8,9] ae4
def Oo:J:=.seq (U [a1 84 178 7 0,aP 85 2 84,a_ 86 .eql 2 85 5,ad 87 86,bw 88 87 (.ct (.t 2)),bw 89 87 (.ck .eql 2 (.t 88) (.c (.int .i64 0))),bw 90 87 (.ct (.t 89)),bo 91 90 (.ct (.t 1)),bo 92 90 (.ga (.t 91)),bo 93 90 (.c1 121 (.t 92) 2),bo 94 90 (.ld 119 (.t 93)),bo 95 90 (.ct (.t 2)),bo 96 90 (.ck .sub 2 (.t 95) (.c (.int .i64 1))),bo 97 90 (.fc 119 (.t 94) (.t 96)),bo 98 90 (.c1 178 (.t 97) 0),bo 99 90 (.ld 2 (.t 98)),bo 100 90 (.ck .neq 2 (.t 99) (.c (.int .i64 1))),bw 101 87 (.pick (.t 90) (.c (.bool true)) (.t 100)),ro 102 (.pick (.t 87) (.t 101) (.c (.bool false)))] [1,2,7,8,102] Om) ae5
def ae6:J:=.seq (U [a1 55 178 7 0,aP 56 2 55] [0,1,2,7,8,56] aeS) Oo
def ae7:J:=U [a1 52 178 7 3,aP 53 146 52,bX 54 146 53,aJ 8 54] [0,1,2,7,8] ae6
def ae8:J:=.seq (U [a1 29 178 7 0,aP 30 2 29,a_ 31 .eql 2 30 4,ad 32 31,bw 33 32 (.c1 178 (.t 7) 1),bw 34 32 (.ld 2 (.t 33)),⟨some 35,.call (.f 61) [(.t 34),(.c (.int .i64 1)),(.c (.int .i64 7))],some (32,true)⟩,bw 36 32 (.un .not (.t 35)),ro 37 (.pick (.t 32) (.t 36) (.c (.bool false))),ad 38 37,bo 39 38 (.c1 178 (.t 7) 0),bo 40 38 (.ld 2 (.t 39)),bo 41 38 (.ck .eql 2 (.t 40) (.c (.int .i64 5))),bo 42 38 (.ct (.t 41)),bw 43 42 (.c1 178 (.t 7) 1),bw 44 42 (.ld 2 (.t 43)),bw 45 42 (.ct (.t 0)),bw 46 42 (.len 34 (.t 45)),bw 47 42 (.ck .sub 2 (.t 46) (.c (.int .i64 1))),⟨some 48,.call (.f 61) [(.t 44),(.c (.int .i64 0)),(.t 47)],some (42,true)⟩,bw 49 42 (.un .not (.t 48)),bo 50 38 (.pick (.t 42) (.t 49) (.c (.bool false))),ro 51 (.pick (.t 38) (.c (.bool true)) (.t 50))] [0,1,2,7,51] Ol) ae7
def ae9:J:=.seq (U [a1 20 178 7 0,aP 21 2 20,a_ 22 .eql 2 21 1,ad 23 22,bw 24 23 (.c1 178 (.t 7) 2),bw 25 23 (.ld 9 (.t 24)),⟨some 26,.call (.f 181) [(.t 25)],some (23,true)⟩,bw 27 23 (.un .not (.t 26)),ro 28 (.pick (.t 23) (.t 27) (.c (.bool false)))] [0,1,2,7,28] Oj) ae8
def ae_:J:=.seq (U [dQ 18 283 7,eH 19 18] [0,1,2,7,19] aeB) ae9
def afa:J:=U [ad 11 1,gQ 12 11,a1 13 121 12 2,aP 14 119 13,ad 15 2,cn 16 119 14 15,aP 17 178 16,iF 7 178,dW 178 7 17] [0,1,2,7] ae_
def afb:J:=U [a7 6 0] [0,1,2] afa
theorem afc:bn ⟨126,[0,1,2]⟩ (Tryz.f243.body.getD .skip)=some afb.strip:=by kernel_rfl
def afd:J:=U [a7 4 0,a7 5 1] [4,5] .ret
def afe:J:=.cond (.t 13) afd .skip
def aff:J:=.cond (.t 20) .skip (.exit 0)
def afg:J:=U [ad 29 6,ad 30 7,aJ 4 29,aJ 5 30] [4,5] .ret
def afh:J:=.cond (.t 28) afg .skip
def afi:J:=U [ad 27 7,a_ 28 .gtr 2 27 0] [0,1,6,7,28] afh
def afj:J:=.ca [ad 21 6,a_ 22 .add 2 21 1,aJ 6 22] (some [0,1,6])
def afk:J:=.seq (.block 1 (U [ad 23 0,ad 24 1,ad 25 6,MZ 26 243 23 24 25,aJ 7 26] [0,1,6,7] afi)) afj
def Oq:J:=.seq (U [ad 14 6,ad 15 1,gQ 16 15,a1 17 121 16 2,aP 18 119 17,bX 19 119 18,bP 20 .lss 2 14 19] [0,1,6,20] aff) afk
def afl:J:=.block 0 (.loop Oq)
def afm:J:=U [a7 4 0,a7 5 0] [4,5] .ret
def afn:J:=.seq (U [a7 6 0] [0,1,6] afl) afm
def afo:J:=.seq (U [ad 8 1,gQ 9 8,a1 10 121 9 2,aP 11 119 10,dQ 12 242 11,eH 13 12] [0,1,13] afe) afn
def afp:J:=U [a7 4 0,a7 5 0] [0,1] afo
theorem afq:bn ⟨31,[0,1]⟩ (Tryz.f182.body.getD .skip)=some afp.strip:=by kernel_rfl
def afr:J:=U [bx 2 false] [2] .ret
def afs:J:=.cond (.t 15) afr .skip
def aft:J:=.cond (.t 19) .skip (.exit 0)
def afu:J:=U [bx 2 false] [2] .ret
def afv:J:=.cond (.t 37) afu .skip
def afw:J:=.cond (.t 40) .skip (.exit 2)
def afx:J:=U [bx 2 false] [2] .ret
def afy:J:=.cond (.t 53) afx .skip
def afz:J:=.ca [ad 41 4,a_ 42 .add 3 41 1,aJ 4 42] (some [0,3,4])
def afA:J:=.seq (.block 3 (hW [ad 43 0,ad 44 4,cn 45 34 43 44,a1 46 121 45 0,aP 47 9 46,ad 48 0,ad 49 3,cn 50 34 48 49,a1 51 121 50 0,aP 52 9 51,bP 53 .eql 9 47 52] [[],[],[0,1],[2],[3],[],[],[5,6],[7],[8],[4,9]] [0,3,4,53] afy)) afz
def Ot:J:=.seq (U [ad 38 4,ad 39 3,bP 40 .lss 3 38 39] [0,3,4,40] afw) afA
def afB:J:=.block 2 (.loop Ot)
def afC:J:=U [a7 4 0] [0,3,4] afB
def afD:J:=.ca [ad 20 3,a_ 21 .add 3 20 1,aJ 3 21] (some [0,3])
def afE:J:=.seq (.block 1 (.seq (U [ad 22 0,ad 23 3,cn 24 34 22 23,a1 25 121 24 0,aP 26 9 25,dQ 27 181 26,eH 28 27,ad 29 28,bo 30 29 (.ct (.t 0)),bo 31 29 (.ct (.t 3)),bo 32 29 (.fc 34 (.t 30) (.t 31)),bo 33 29 (.c1 121 (.t 32) 1),bo 34 29 (.ld 2 (.t 33)),⟨some 35,.call (.f 61) [(.t 34),(.c (.int .i64 0)),(.c (.int .i64 3))],some (29,false)⟩,bo 36 29 (.un .not (.t 35)),ro 37 (.pick (.t 29) (.c (.bool true)) (.t 36))] [0,3,37] afv) afC)) afD
def Ou:J:=.seq (U [ad 16 3,ad 17 0,bX 18 34 17,bP 19 .lss 3 16 18] [0,3,19] aft) afE
def afF:J:=.block 0 (.loop Ou)
def afG:J:=.cond (.t 57) .skip (.exit 4)
def afH:J:=U [bx 2 false] [2] .ret
def afI:J:=.cond (.t 69) afH .skip
def afJ:J:=U [ad 68 7,a_ 69 .gtr 2 68 0] [0,5,69] afI
def afK:J:=.ca [ad 58 5,a_ 59 .add 3 58 1,aJ 5 59] (some [0,5])
def afL:J:=.seq (.block 5 (U [ad 61 0,ad 62 0,ad 63 5,cn 64 34 62 63,dD 65 182 61 64,ad 60 65,qc 66 60 0,qc 67 60 1,aJ 6 66,aJ 7 67] [0,5,7] afJ)) afK
def Ov:J:=.seq (U [ad 54 5,ad 55 0,bX 56 34 55,bP 57 .lss 3 54 56] [0,5,57] afG) afL
def afM:J:=.block 4 (.loop Ov)
def afN:J:=U [bx 2 true] [2] .ret
def afO:J:=.seq (U [a7 5 0] [0,5] afM) afN
def afP:J:=.seq (U [a7 3 0] [0,3] afF) afO
def afQ:J:=.seq (U [ad 8 0,bX 9 34 8,a_ 10 .eql 3 9 0,ad 11 10,bo 12 11 (.ct (.t 0)),bo 13 11 (.len 34 (.t 12)),bo 14 11 (.ck .gtr 3 (.t 13) (.c (.int .i64 4))),ro 15 (.pick (.t 11) (.c (.bool true)) (.t 14))] [0,15] afs) afP
def afR:J:=U [bx 2 false] [0] afQ
theorem afS:bn ⟨70,[0]⟩ (Tryz.f132.body.getD .skip)=some afR.strip:=by kernel_rfl
def afT:J:=.cond (.t 7) .skip (.exit 0)
def afU:J:=U [bx 2 false] [2] .ret
def afV:J:=.cond (.t 15) afU .skip
def afW:J:=.ca [ad 8 3,a_ 9 .add 3 8 1,aJ 3 9] (some [0,3])
def afX:J:=.seq (.block 1 (U [ad 10 0,ad 11 3,cn 12 46 10 11,aP 13 2 12,ro 14 (.call (.f 61) [(.t 13),(.c (.int .i64 0)),(.c (.int .i64 63))]),eH 15 14] [0,3,15] afV)) afW
def Ow:J:=.seq (U [ad 4 3,ad 5 0,bX 6 46 5,bP 7 .lss 3 4 6] [0,3,7] afT) afX
def afY:J:=.block 0 (.loop Ow)
def afZ:J:=U [bx 2 true] [2] .ret
def af0:J:=.seq (U [a7 3 0] [0,3] afY) afZ
def af1:J:=U [bx 2 false] [0] af0
theorem af2:bn ⟨16,[0]⟩ (Tryz.f137.body.getD .skip)=some af1.strip:=by kernel_rfl
def af3:J:=U [bx 2 false] [2] .ret
def af4:J:=.cond (.t 18) af3 .skip
def af5:J:=.cond (.t 25) .skip (.exit 0)
def af6:J:=U [bx 2 false] [2] .ret
def af7:J:=.cond (.t 44) af6 .skip
def af8:J:=U [bx 2 false] [2] .ret
def af9:J:=.cond (.t 63) af8 .skip
def af_:J:=hW [a1 45 100 4 1,aP 46 46 45,bX 47 46 46,ad 48 0,gQ 49 48,a1 50 38 49 0,aP 51 34 50,a1 52 100 4 0,aP 53 2 52,cn 54 34 51 53,a1 55 121 54 1,aP 56 2 55,bP 57 .neq 2 47 56,ad 58 57,bo 59 58 (.c1 100 (.t 4) 1),bo 60 58 (.ld 46 (.t 59)),⟨some 61,.call (.f 137) [(.t 60)],some (58,false)⟩,bo 62 58 (.un .not (.t 61)),ro 63 (.pick (.t 58) (.c (.bool true)) (.t 62))] [[],[0],[1],[],[3],[4],[5],[],[7],[6,8],[9],[10],[2,11],[12],[13],[14,13],[15,13,13],[16,13],[13,17]] [0,3,63] af9
def aga:J:=.seq (hW [a1 35 100 4 0,aP 36 2 35,ad 37 0,gQ 38 37,a1 39 38 38 0,aP 40 34 39,bX 41 34 40,a_ 42 .sub 2 41 1,ro 43 (.call (.f 61) [(.t 36),(.c (.int .i64 0)),(.t 42)]),eH 44 43] [[],[0],[],[2],[3],[4],[5],[6],[1,7],[8]] [0,3,4,44] af7) af_
def agb:J:=.ca [ad 26 3,a_ 27 .add 3 26 1,aJ 3 27] (some [0,3])
def agc:J:=.seq (.block 1 (U [ad 28 0,gQ 29 28,a1 30 38 29 1,aP 31 35 30,ad 32 3,cn 33 35 31 32,aP 34 100 33,iF 4 100,dW 100 4 34] [0,3,4] aga)) agb
def Ox:J:=.seq (U [ad 19 3,ad 20 0,gQ 21 20,a1 22 38 21 1,aP 23 35 22,bX 24 35 23,bP 25 .lss 3 19 24] [0,3,25] af5) agc
def agd:J:=.block 0 (.loop Ox)
def age:J:=U [bx 2 true] [2] .ret
def agf:J:=.seq (U [a7 3 0] [0,3] agd) age
def agh:J:=.seq (U [ad 5 0,gQ 6 5,a1 7 38 6 1,aP 8 35 7,bX 9 35 8,a_ 10 .eql 3 9 0,ad 11 10,bo 12 11 (.ct (.t 0)),bo 13 11 (.ga (.t 12)),bo 14 11 (.c1 38 (.t 13) 1),bo 15 11 (.ld 35 (.t 14)),bo 16 11 (.len 35 (.t 15)),bo 17 11 (.ck .gtr 3 (.t 16) (.c (.int .i64 3))),ro 18 (.pick (.t 11) (.c (.bool true)) (.t 17))] [0,18] af4) agf
def agi:J:=U [bx 2 false] [0] agh
theorem agj:bn ⟨64,[0]⟩ (Tryz.f133.body.getD .skip)=some agi.strip:=by kernel_rfl
def agk:J:=U [ad 3 0,dQ 4 181 3,ad 5 4,bw 6 5 (.ct (.t 0)),⟨some 7,.ck .neq 9 (.t 6) (.c (.str [116,97,117])),some (5,true)⟩,ro 8 (.pick (.t 5) (.t 7) (.c (.bool false))),aJ 2 8] [2] .ret
def agl:J:=U [bx 2 false] [0] agk
theorem agm:bn ⟨9,[0]⟩ (Tryz.f183.body.getD .skip)=some agl.strip:=by kernel_rfl
def agn:J:=U [bx 2 false] [2] .ret
def ago:J:=.cond (.t 8) agn .skip
def agp:J:=.cond (.t 12) .skip (.exit 0)
def agq:J:=U [bx 2 false] [2] .ret
def agr:J:=.cond (.t 41) agq .skip
def ags:J:=U [bx 2 false] [2] .ret
def agt:J:=.cond (.t 76) ags .skip
def agu:J:=.cond (.t 80) .skip (.exit 2)
def agv:J:=U [bx 2 false] [2] .ret
def agw:J:=.cond (.t 100) agv .skip
def agx:J:=.ca [ad 81 5,a_ 82 .add 3 81 1,aJ 5 82] (some [0,3,4,5])
def agy:J:=.seq (.block 3 (hW [ad 83 0,ad 84 5,cn 85 36 83 84,a1 86 124 85 0,aP 87 9 86,a1 88 124 4 2,aP 89 9 88,bP 90 .eql 9 87 89,ad 91 90,bo 92 91 (.ct (.t 0)),bo 93 91 (.ct (.t 5)),bo 94 91 (.fc 36 (.t 92) (.t 93)),bo 95 91 (.c1 124 (.t 94) 1),bo 96 91 (.ld 9 (.t 95)),bo 97 91 (.c1 124 (.t 4) 2),bo 98 91 (.ld 9 (.t 97)),bo 99 91 (.ck .eql 9 (.t 96) (.t 98)),ro 100 (.pick (.t 91) (.c (.bool true)) (.t 99))] [[],[],[0,1],[2],[3],[],[5],[4,6],[7],[8],[8],[9,10,8],[11,8],[12,8],[8],[14,8],[13,15,8],[8,16]] [0,3,4,5,100] agw)) agx
def H6:J:=.seq (U [ad 77 5,ad 78 0,bX 79 36 78,bP 80 .lss 3 77 79] [0,3,4,5,80] agu) agy
def agz:J:=.block 2 (.loop H6)
def agA:J:=U [a7 5 0] [0,3,4,5] agz
def agB:J:=.seq (hW [ad 42 3,a_ 43 .gtr 3 42 0,ad 44 43,bw 45 44 (.ct (.t 0)),bw 46 44 (.ct (.t 3)),bw 47 44 (.ck .sub 3 (.t 46) (.c (.int .i64 1))),bw 48 44 (.fc 36 (.t 45) (.t 47)),bw 49 44 (.c1 124 (.t 48) 0),bw 50 44 (.ld 9 (.t 49)),bw 51 44 (.c1 124 (.t 4) 0),bw 52 44 (.ld 9 (.t 51)),bw 53 44 (.ck .gtr 9 (.t 50) (.t 52)),bw 54 44 (.ct (.t 53)),bo 55 54 (.ct (.t 0)),bo 56 54 (.ct (.t 3)),bo 57 54 (.ck .sub 3 (.t 56) (.c (.int .i64 1))),bo 58 54 (.fc 36 (.t 55) (.t 57)),bo 59 54 (.c1 124 (.t 58) 0),bo 60 54 (.ld 9 (.t 59)),bo 61 54 (.c1 124 (.t 4) 0),bo 62 54 (.ld 9 (.t 61)),bo 63 54 (.ck .eql 9 (.t 60) (.t 62)),bo 64 54 (.ct (.t 63)),bw 65 64 (.ct (.t 0)),bw 66 64 (.ct (.t 3)),bw 67 64 (.ck .sub 3 (.t 66) (.c (.int .i64 1))),bw 68 64 (.fc 36 (.t 65) (.t 67)),bw 69 64 (.c1 124 (.t 68) 1),bw 70 64 (.ld 9 (.t 69)),bw 71 64 (.c1 124 (.t 4) 1),bw 72 64 (.ld 9 (.t 71)),bw 73 64 (.ck .geq 9 (.t 70) (.t 72)),bo 74 54 (.pick (.t 64) (.t 73) (.c (.bool false))),bw 75 44 (.pick (.t 54) (.c (.bool true)) (.t 74)),ro 76 (.pick (.t 44) (.t 75) (.c (.bool false)))] [[],[0],[1],[2],[2],[4,2],[3,5,2],[6,2],[7,2],[2],[9,2],[8,10,2],[11,2,2],[12],[12],[14,12],[13,15,12],[16,12],[17,12],[12],[19,12],[18,20,12],[21,12,12],[22],[22],[24,22],[23,25,22],[26,22],[27,22],[22],[29,22],[28,30,22],[22,31,12],[12,32,2],[2,33]] [0,3,4,76] agt) agA
def agC:J:=.seq (U [a1 19 124 4 0,aP 20 9 19,dQ 21 183 20,eH 22 21,ad 23 22,bo 24 23 (.c1 124 (.t 4) 1),bo 25 23 (.ld 9 (.t 24)),⟨some 26,.call (.f 183) [(.t 25)],some (23,false)⟩,bo 27 23 (.un .not (.t 26)),ro 28 (.pick (.t 23) (.c (.bool true)) (.t 27)),ad 29 28,bo 30 29 (.c1 124 (.t 4) 2),bo 31 29 (.ld 9 (.t 30)),⟨some 32,.call (.f 183) [(.t 31)],some (29,false)⟩,bo 33 29 (.un .not (.t 32)),ro 34 (.pick (.t 29) (.c (.bool true)) (.t 33)),ad 35 34,bo 36 35 (.c1 124 (.t 4) 0),bo 37 35 (.ld 9 (.t 36)),bo 38 35 (.c1 124 (.t 4) 1),bo 39 35 (.ld 9 (.t 38)),bo 40 35 (.ck .gtr 9 (.t 37) (.t 39)),ro 41 (.pick (.t 35) (.c (.bool true)) (.t 40))] [0,3,4,41] agr) agB
def agD:J:=.ca [ad 13 3,a_ 14 .add 3 13 1,aJ 3 14] (some [0,3])
def agE:J:=.seq (.block 1 (U [ad 15 0,ad 16 3,cn 17 36 15 16,aP 18 124 17,iF 4 124,dW 124 4 18] [0,3,4] agC)) agD
def Oy:J:=.seq (U [ad 9 3,ad 10 0,bX 11 36 10,bP 12 .lss 3 9 11] [0,3,12] agp) agE
def agF:J:=.block 0 (.loop Oy)
def agG:J:=U [bx 2 true] [2] .ret
def agH:J:=.seq (U [a7 3 0] [0,3] agF) agG
def agI:J:=.seq (U [ad 6 0,bX 7 36 6,a_ 8 .gtr 3 7 6] [0,8] ago) agH
def agJ:J:=U [bx 2 false] [0] agI
theorem agK:bn ⟨101,[0]⟩ (Tryz.f134.body.getD .skip)=some agJ.strip:=by kernel_rfl
def agL:J:=.cond (.t 7) .skip (.exit 0)
def agM:J:=U [bx 2 false] [2] .ret
def agN:J:=.cond (.t 15) agM .skip
def agO:J:=.ca [ad 8 3,a_ 9 .add 3 8 1,aJ 3 9] (some [0,3])
def agP:J:=.seq (.block 1 (U [ad 10 0,ad 11 3,cn 12 25 10 11,aP 13 9 12,dQ 14 183 13,eH 15 14] [0,3,15] agN)) agO
def Oz:J:=.seq (U [ad 4 3,ad 5 0,bX 6 25 5,bP 7 .lss 3 4 6] [0,3,7] agL) agP
def agQ:J:=.block 0 (.loop Oz)
def agR:J:=U [bx 2 true] [2] .ret
def agS:J:=.seq (U [a7 3 0] [0,3] agQ) agR
def agT:J:=U [bx 2 false] [0] agS
theorem agU:bn ⟨16,[0]⟩ (Tryz.f184.body.getD .skip)=some agT.strip:=by kernel_rfl
def agV:J:=U [bx 2 false] [2] .ret
def agW:J:=.cond (.t 11) agV .skip
def agX:J:=.cond (.t 15) .skip (.exit 0)
def agY:J:=U [bx 2 false] [2] .ret
def agZ:J:=.cond (.t 27) agY .skip
def ag0:J:=.ca [ad 16 3,a_ 17 .add 3 16 1,aJ 3 17] (some [0,3])
def ag1:J:=.seq (.block 1 (hW [ad 18 0,ad 19 3,a_ 20 .sub 3 19 1,cn 21 25 18 20,aP 22 9 21,ad 23 0,ad 24 3,cn 25 25 23 24,aP 26 9 25,bP 27 .geq 9 22 26] [[],[],[1],[0,2],[3],[],[],[5,6],[7],[4,8]] [0,3,27] agZ)) ag0
def OA:J:=.seq (U [ad 12 3,ad 13 0,bX 14 25 13,bP 15 .lss 3 12 14] [0,3,15] agX) ag1
def ag2:J:=.block 0 (.loop OA)
def ag3:J:=U [bx 2 true] [2] .ret
def ag4:J:=.seq (U [a7 3 1] [0,3] ag2) ag3
def ag5:J:=.seq (U [ad 4 0,bX 5 25 4,a_ 6 .gtr 3 5 12,ad 7 6,bo 8 7 (.ct (.t 0)),⟨some 9,.call (.f 184) [(.t 8)],some (7,false)⟩,bo 10 7 (.un .not (.t 9)),ro 11 (.pick (.t 7) (.c (.bool true)) (.t 10))] [0,11] agW) ag4
def ag6:J:=U [bx 2 false] [0] ag5
theorem ag7:bn ⟨28,[0]⟩ (Tryz.f135.body.getD .skip)=some ag6.strip:=by kernel_rfl
def ag8:J:=U [a7 2 1] [2] .ret
def ag9:J:=.cond (.t 8) ag8 .skip
def ag_:J:=U [a7 2 2] [2] .ret
def aha:J:=.cond (.t 11) ag_ .skip
def ahb:J:=U [a7 2 3] [2] .ret
def ahc:J:=.cond (.t 17) ahb .skip
def ahd:J:=U [a7 2 4] [2] .ret
def ahe:J:=.cond (.t 23) ahd .skip
def ahf:J:=U [a7 2 5] [2] .ret
def ahg:J:=.cond (.t 29) ahf .skip
def ahh:J:=U [a7 2 0] [2] .ret
def ahi:J:=.seq (U [ad 24 0,gQ 25 24,a1 26 38 25 4,aP 27 25 26,dQ 28 135 27,eH 29 28] [29] ahg) ahh
def ahj:J:=.seq (U [ad 18 0,gQ 19 18,a1 20 38 19 3,aP 21 25 20,dQ 22 135 21,eH 23 22] [0,23] ahe) ahi
def ahk:J:=.seq (U [ad 12 0,gQ 13 12,a1 14 38 13 2,aP 15 36 14,dQ 16 134 15,eH 17 16] [0,17] ahc) ahj
def ahl:J:=.seq (U [ad 9 0,dQ 10 133 9,eH 11 10] [0,11] aha) ahk
def ahm:J:=.seq (U [ad 3 0,gQ 4 3,a1 5 38 4 0,aP 6 34 5,dQ 7 132 6,eH 8 7] [0,8] ag9) ahl
def ahn:J:=U [a7 2 0] [0] ahm
theorem aho:bn ⟨30,[0]⟩ (Tryz.f79.body.getD .skip)=some ahn.strip:=by kernel_rfl
def ahp:J:=U [ad 3 0,dQ 4 79 3,a_ 5 .eql 2 4 0,aJ 2 5] [2] .ret
def ahq:J:=U [bx 2 false] [0] ahp
theorem ahr:bn ⟨6,[0]⟩ (Tryz.f41.body.getD .skip)=some ahq.strip:=by kernel_rfl
def ahs:J:=U [bx 4 false] [4] .ret
def aht:J:=.cond (.t 14) ahs .skip
def ahu:J:=U [bx 4 false] [4] .ret
def ahv:J:=.cond (.t 43) ahu .skip
def ahw:J:=hW [ad 44 1,gQ 45 44,a1 46 82 45 2,aP 47 46 46,bX 48 46 47,ad 49 1,gQ 50 49,a1 51 82 50 1,aP 52 2 51,dD 53 136 5 52,bP 54 .eql 2 48 53,ad 55 54,bw 56 55 (.ct (.t 1)),bw 57 55 (.ga (.t 56)),bw 58 55 (.c1 82 (.t 57) 2),bw 59 55 (.ld 46 (.t 58)),⟨some 60,.call (.f 137) [(.t 59)],some (55,true)⟩,ro 61 (.pick (.t 55) (.t 60) (.c (.bool false))),aJ 4 61] [[],[0],[1],[2],[3],[],[5],[6],[7],[8],[4,9],[10,9],[11],[12,11],[13,11],[14,11],[15,11,11],[11,16],[17,16,0,1,2,3,4,5,6,7,8,9,10,11,12,13,14,15,16,17]] [4] .ret
def ahx:J:=.seq (hW [ad 22 1,gQ 23 22,a1 24 82 23 1,aP 25 2 24,a1 26 121 5 2,aP 27 119 26,bX 28 119 27,a_ 29 .sub 2 28 1,ro 30 (.call (.f 61) [(.t 25),(.c (.int .i64 0)),(.t 29)]),eH 31 30,ad 32 31,bo 33 32 (.c1 121 (.t 5) 2),bo 34 32 (.ld 119 (.t 33)),bo 35 32 (.ct (.t 1)),bo 36 32 (.ga (.t 35)),bo 37 32 (.c1 82 (.t 36) 1),bo 38 32 (.ld 2 (.t 37)),bo 39 32 (.fc 119 (.t 34) (.t 38)),bo 40 32 (.c1 178 (.t 39) 0),bo 41 32 (.ld 2 (.t 40)),bo 42 32 (.ck .eql 2 (.t 41) (.c (.int .i64 5))),ro 43 (.pick (.t 32) (.c (.bool true)) (.t 42))] [[],[0],[1],[2],[],[4],[5],[6],[3,7],[8],[9,8],[10],[11,10],[10],[13,10],[14,10],[15,10],[12,16,10],[17,10],[18,10],[19,10],[10,20]] [1,5,43] ahv) ahw
def ahy:J:=U [ad 15 0,ad 16 1,gQ 17 16,a1 18 82 17 0,aP 19 2 18,cn 20 34 15 19,aP 21 121 20,iF 5 121,dW 121 5 21] [1,5] ahx
def ahz:J:=.seq (U [ad 6 1,gQ 7 6,a1 8 82 7 0,aP 9 2 8,ad 10 0,bX 11 34 10,a_ 12 .sub 2 11 1,ro 13 (.call (.f 61) [(.t 9),(.c (.int .i64 0)),(.t 12)]),eH 14 13] [0,1,14] aht) ahy
def ahA:J:=U [bx 4 false] [0,1] ahz
theorem ahB:bn ⟨62,[0,1]⟩ (Tryz.f80.body.getD .skip)=some ahA.strip:=by kernel_rfl
def ahC:J:=U [bx 4 false] [4] .ret
def ahD:J:=.cond (.t 13) ahC .skip
def ahE:J:=.cond (.t 17) .skip (.exit 0)
def ahF:J:=U [bx 4 false] [4] .ret
def ahG:J:=.cond (.t 28) ahF .skip
def ahH:J:=.ca [ad 18 5,a_ 19 .add 3 18 1,aJ 5 19] (some [0,1,5])
def ahI:J:=.seq (.block 1 (hW [ad 20 0,gQ 21 20,a1 22 38 21 0,aP 23 34 22,ad 24 1,ad 25 5,cn 26 31 24 25,dD 27 80 23 26,eH 28 27] [[],[0],[1],[2],[],[],[4,5],[3,6],[7]] [0,1,5,28] ahG)) ahH
def OB:J:=.seq (U [ad 14 5,ad 15 1,bX 16 31 15,bP 17 .lss 3 14 16] [0,1,5,17] ahE) ahI
def ahJ:J:=.block 0 (.loop OB)
def ahK:J:=U [bx 4 true] [4] .ret
def ahL:J:=.seq (U [a7 5 0] [0,1,5] ahJ) ahK
def ahM:J:=.seq (U [ad 6 1,bX 7 31 6,ad 8 0,gQ 9 8,a1 10 38 9 1,aP 11 35 10,bX 12 35 11,bP 13 .neq 3 7 12] [0,1,13] ahD) ahL
def ahN:J:=U [bx 4 false] [0,1] ahM
theorem ahO:bn ⟨29,[0,1]⟩ (Tryz.f42.body.getD .skip)=some ahN.strip:=by kernel_rfl
def ahP:J:=U [ro 3 (.dG 46 0 []),ad 4 0,yE 5 46 46 3 4,aJ 2 5] [2] .ret
def ahQ:J:=U [j_ 2] [0] ahP
theorem ahR:bn ⟨6,[0]⟩ (Tryz.f117.body.getD .skip)=some ahQ.strip:=by kernel_rfl
def ahS:J:=.cond (.t 9) .skip (.exit 0)
def ahT:J:=.ca [ad 10 4,a_ 11 .add 3 10 1,aJ 4 11] (some [0,3,4])
def ahU:J:=.seq (.block 1 (.l9 [ad 12 3,ad 13 0,ad 14 4,cn 15 31 13 14,a1 16 82 15 0,aP 17 2 16,ad 18 0,ad 19 4,cn 20 31 18 19,a1 21 82 20 1,aP 22 2 21,ad 23 0,ad 24 4,cn 25 31 23 24,a1 26 82 25 2,aP 27 46 26,dQ 28 117 27,ro 29 (.e0 82 [(0,(.t 17)),(1,(.t 22)),(2,(.t 28))]),BX 30 31 29,yE 31 31 31 12 30,aJ 3 31] [[],[],[],[1,2],[3],[4],[],[],[6,7],[8],[9],[],[],[11,12],[13],[14],[15],[5,10,16],[17],[0,18,16],[19,19,0,1,2,3,4,5,6,7,8,9,10,11,12,13,14,15,16,17,18,19]] (some [0,3,4]))) ahT
def OC:J:=.seq (U [ad 6 4,ad 7 0,bX 8 31 7,bP 9 .lss 3 6 8] [0,3,4,9] ahS) ahU
def ahV:J:=.block 0 (.loop OC)
def ahW:J:=U [ad 32 3,aJ 2 32] [2] .ret
def ahX:J:=.seq (U [a7 4 0] [0,3,4] ahV) ahW
def ahY:J:=U [ro 5 (.dG 31 0 []),aJ 3 5] [0,3] ahX
def ahZ:J:=U [j_ 2] [0] ahY
theorem ah0:bn ⟨33,[0]⟩ (Tryz.f81.body.getD .skip)=some ahZ.strip:=by kernel_rfl
def ah1:J:=.cond (.t 15) .skip (.exit 0)
def ah2:J:=U [a7 4 (-1)] [4] .ret
def ah3:J:=.cond (.t 26) ah2 .skip
def ah4:J:=U [a7 4 1] [4] .ret
def ah5:J:=.cond (.t 35) ah4 .skip
def ah6:J:=hW [ad 27 0,ad 28 5,cn 29 46 27 28,aP 30 2 29,ad 31 1,ad 32 5,cn 33 46 31 32,aP 34 2 33,bP 35 .gtr 2 30 34] [[],[],[0,1],[2],[],[],[4,5],[6],[3,7]] [0,1,5,35] ah5
def ah7:J:=.ca [ad 16 5,a_ 17 .add 3 16 1,aJ 5 17] (some [0,1,5])
def ah8:J:=.seq (.block 1 (.seq (hW [ad 18 0,ad 19 5,cn 20 46 18 19,aP 21 2 20,ad 22 1,ad 23 5,cn 24 46 22 23,aP 25 2 24,bP 26 .lss 2 21 25] [[],[],[0,1],[2],[],[],[4,5],[6],[3,7]] [0,1,5,26] ah3) ah6)) ah7
def OD:J:=.seq (U [ad 6 5,ad 7 0,bX 8 46 7,bP 9 .lss 3 6 8,ad 10 9,bw 11 10 (.ct (.t 5)),bw 12 10 (.ct (.t 1)),bw 13 10 (.len 46 (.t 12)),bw 14 10 (.ck .lss 3 (.t 11) (.t 13)),ro 15 (.pick (.t 10) (.t 14) (.c (.bool false)))] [0,1,5,15] ah1) ah8
def ah9:J:=.block 0 (.loop OD)
def ah_:J:=U [a7 4 (-1)] [4] .ret
def aia:J:=.cond (.t 40) ah_ .skip
def aib:J:=U [a7 4 1] [4] .ret
def aic:J:=.cond (.t 45) aib .skip
def aid:J:=U [a7 4 0] [4] .ret
def aie:J:=.seq (U [ad 41 0,bX 42 46 41,ad 43 1,bX 44 46 43,bP 45 .gtr 3 42 44] [45] aic) aid
def aif:J:=.seq (U [ad 36 0,bX 37 46 36,ad 38 1,bX 39 46 38,bP 40 .lss 3 37 39] [0,1,40] aia) aie
def aih:J:=.seq (U [a7 5 0] [0,1,5] ah9) aif
def aii:J:=U [a7 4 0] [0,1] aih
theorem aij:bn ⟨46,[0,1]⟩ (Tryz.f138.body.getD .skip)=some aii.strip:=by kernel_rfl
def aik:J:=U [ad 31 7,aJ 4 31] [4] .ret
def ail:J:=.cond (.t 30) aik .skip
def aim:J:=hW [ad 32 0,gQ 33 32,a1 34 82 33 2,aP 35 46 34,ad 36 1,gQ 37 36,a1 38 82 37 2,aP 39 46 38,dD 40 138 35 39,aJ 4 40] [[],[0],[1],[2],[],[4],[5],[6],[3,7],[8,8,0,1,2,3,4,5,6,7,8]] [4] .ret
def ain:J:=.seq (U [ad 29 7,a_ 30 .neq 2 29 0] [0,1,7,30] ail) aim
def aio:J:=U [ad 26 5,ad 27 6,dD 28 138 26 27,aJ 7 28] [0,1,7] ain
def aip:J:=hW [ad 17 1,gQ 18 17,a1 19 82 18 0,aP 20 2 19,ad 21 1,gQ 22 21,a1 23 82 22 1,aP 24 2 23,ro 25 (.dG 46 2 [(0,(.t 20)),(1,(.t 24))]),aJ 6 25] [[],[0],[1],[2],[],[4],[5],[6],[3,7],[8,0,1,2,3,4,5,6,7,8]] [0,1,5,6] aio
def aiq:J:=hW [ad 8 0,gQ 9 8,a1 10 82 9 0,aP 11 2 10,ad 12 0,gQ 13 12,a1 14 82 13 1,aP 15 2 14,ro 16 (.dG 46 2 [(0,(.t 11)),(1,(.t 15))]),aJ 5 16] [[],[0],[1],[2],[],[4],[5],[6],[3,7],[8,0,1,2,3,4,5,6,7,8]] [0,1,5] aip
def air:J:=U [a7 4 0] [0,1] aiq
theorem ais:bn ⟨41,[0,1]⟩ (Tryz.f82.body.getD .skip)=some air.strip:=by kernel_rfl
def ait:J:=.cond (.t 14) .skip (.exit 0)
def aiu:J:=.cond (.t 31) .skip (.exit 2)
def aiv:J:=.block 3 (.ca [ad 32 6,a_ 33 .sub 3 32 1,aJ 6 33] (some [0,3,4,5,6]))
def OE:J:=.seq (hW [ad 19 6,a_ 20 .gtr 3 19 0,ad 21 20,bw 22 21 (.ct (.t 3)),bw 23 21 (.ct (.t 5)),bw 24 21 (.fc 31 (.t 22) (.t 23)),bw 25 21 (.ct (.t 4)),bw 26 21 (.ct (.t 6)),bw 27 21 (.ck .sub 3 (.t 26) (.c (.int .i64 1))),bw 28 21 (.fc 31 (.t 25) (.t 27)),⟨some 29,.call (.f 82) [(.t 24),(.t 28)],some (21,true)⟩,bw 30 21 (.ck .lss 2 (.t 29) (.c (.int .i64 0))),ro 31 (.pick (.t 21) (.t 30) (.c (.bool false)))] [[],[0],[1],[2],[2],[3,4,2],[2],[2],[7,2],[6,8,2],[5,9,2,2],[10,2],[2,11]] [0,3,4,5,6,31] aiu) aiv
def aiw:J:=.cond (.t 43) .skip (.exit 4)
def aix:J:=.ca [ad 44 7,a_ 45 .sub 3 44 1,aJ 7 45] (some [0,3,4,5,6,7])
def aiy:J:=.seq (.block 5 (.ca [ad 46 4,ad 47 7,ad 48 4,ad 49 7,a_ 50 .sub 3 49 1,cn 51 31 48 50,aP 52 82 51,cn 53 31 46 47,dW 82 53 52] (some [0,3,4,5,6,7]))) aix
def H7:J:=.seq (U [ad 41 7,ad 42 6,bP 43 .gtr 3 41 42] [0,3,4,5,6,7,43] aiw) aiy
def aiz:J:=.block 4 (.loop H7)
def aiA:J:=.ca [ad 54 4,ad 55 6,ad 56 3,ad 57 5,cn 58 31 56 57,aP 59 82 58,cn 60 31 54 55,dW 82 60 59] (some [0,3,4,5])
def aiB:J:=.seq (U [ad 38 4,bX 39 31 38,a_ 40 .sub 3 39 1,aJ 7 40] [0,3,4,5,6,7] aiz) aiA
def aiC:J:=U [ad 34 4,ro 35 (.e0 82 []),BX 36 31 35,yE 37 31 31 34 36,aJ 4 37] [0,3,4,5,6] aiB
def aiD:J:=.seq (.block 2 (.loop OE)) aiC
def aiE:J:=.ca [ad 15 5,a_ 16 .add 3 15 1,aJ 5 16] (some [0,3,4,5])
def aiF:J:=.seq (.block 1 (U [ad 17 4,bX 18 31 17,aJ 6 18] [0,3,4,5,6] aiD)) aiE
def OG:J:=.seq (U [ad 11 5,ad 12 3,bX 13 31 12,bP 14 .lss 3 11 13] [0,3,4,5,14] ait) aiF
def aiG:J:=.block 0 (.loop OG)
def aiH:J:=U [ad 61 4,aJ 2 61] [0,2] .ret
def aiI:J:=.seq (U [a7 5 0] [0,3,4,5] aiG) aiH
def aiJ:J:=U [ro 10 (.dG 31 0 []),aJ 4 10] [0,3,4] aiI
def aiK:J:=U [ad 8 0,dQ 9 81 8,aJ 3 9] [0,3] aiJ
def aiL:J:=U [j_ 2] [0] aiK
theorem aiM:bn ⟨62,[0]⟩ (Tryz.f43.body.getD .skip)=some aiL.strip:=by kernel_rfl
def aiN:J:=U [j_ 4,a7 5 1] [1,4,5] .ret
def aiO:J:=.cond (.t 12) aiN .skip
def aiP:J:=U [ad 13 1,dQ 14 43 13,aJ 4 14,a7 5 0] [1,4,5] .ret
def aiQ:J:=.seq (U [dQ 6 41 2,eH 7 6,ad 8 7,bo 9 8 (.ct (.t 1)),⟨some 10,.call (.f 42) [(.t 2),(.t 9)],some (8,false)⟩,bo 11 8 (.un .not (.t 10)),ro 12 (.pick (.t 8) (.c (.bool true)) (.t 11))] [1,12] aiO) aiP
def aiR:J:=U [ro 2 (.da 38 (.t 0)),j_ 4,a7 5 0] [1,2] aiQ
theorem aiS:bn ⟨15,[0,1]⟩ (Tryz.f10.body.getD .skip)=some aiR.strip:=by kernel_rfl
def aiT:J:=U [ad 7 0,ad 8 1,bP 9 .geq 2 7 8,ad 10 9,bw 11 10 (.ct (.t 0)),bw 12 10 (.ct (.t 2)),bw 13 10 (.ck .leq 2 (.t 11) (.t 12)),ro 14 (.pick (.t 10) (.t 13) (.c (.bool false))),aJ 6 14] [6] .ret
def aiU:J:=U [bx 6 false] [0,1,2] aiT
theorem aiV:bn ⟨15,[0,1,2]⟩ (Tryz.f106.body.getD .skip)=some aiU.strip:=by kernel_rfl
def aiW:J:=U [a1 3 121 1 1,aP 4 2 3,ro 5 (.call (.f 106) [(.t 4),(.c (.int .i64 0)),(.c (.int .i64 3))]),eH 6 5,aJ 2 6] [2] .ret
def aiX:J:=U [ro 1 (.da 121 (.t 0)),bx 2 false] [1] aiW
theorem aiY:bn ⟨7,[0]⟩ (Tryz.f255.body.getD .skip)=some aiX.strip:=by kernel_rfl
def aiZ:J:=U [ad 17 5,aJ 4 17] [4] .ret
def ai0:J:=.cond (.t 16) aiZ .skip
def ai1:J:=U [ad 11 1,ad 12 0,ad 13 5,cn 14 34 12 13,aP 15 121 14,ro 16 (.call (.t 11) [(.t 15)])] [0,1,5,7,8,16] ai0
def ai2:J:=.ca [a_ 18 .add 3 8 1,ad 8 18] (some [0,1,7,8])
def ai3:J:=.seq (.block 1 (U [ad 10 8,aJ 5 10] [0,1,5,7,8] ai1)) ai2
def ai4:J:=.seq (.cond (.t 9) .skip (.exit 0)) ai3
def OH:J:=U [bP 9 .lss 3 8 7] [0,1,7,8,9] ai4
def ai5:J:=.block 0 (.loop OH)
def ai6:J:=U [a7 4 (-1)] [4] .ret
def ai7:J:=.seq (U [ad 6 0,bX 7 34 6,lu 8 0] [0,1,7,8] ai5) ai6
def ai8:J:=U [a7 4 0] [0,1] ai7
theorem ai9:bn ⟨19,[0,1]⟩ (Tryz.f257.body.getD .skip)=some ai8.strip:=by kernel_rfl
def ai_:J:=U [ad 5 0,ad 6 1,dD 7 257 5 6,a_ 8 .geq 3 7 0,aJ 4 8] [4] .ret
def aja:J:=U [bx 4 false] [0,1] ai_
theorem ajb:bn ⟨9,[0,1]⟩ (Tryz.f254.body.getD .skip)=some aja.strip:=by kernel_rfl
def ajc:J:=U [ad 3 0,ro 4 (.call (.f 254) [(.t 3),(.f 255)]),eH 5 4,aJ 2 5] [2] .ret
def ajd:J:=U [bx 2 false] [0] ajc
theorem aje:bn ⟨6,[0]⟩ (Tryz.f208.body.getD .skip)=some ajd.strip:=by kernel_rfl
def ajf:J:=U [ad 3 0,ro 4 (.ck .geq 5 (.t 3) (.c (.int .u8 48))),ad 5 4,bw 6 5 (.ct (.t 0)),bw 7 5 (.ck .leq 5 (.t 6) (.c (.int .u8 57))),ro 8 (.pick (.t 5) (.t 7) (.c (.bool false))),aJ 2 8] [2] .ret
def ajg:J:=U [bx 2 false] [0] ajf
theorem ajh:bn ⟨9,[0]⟩ (Tryz.f256.body.getD .skip)=some ajg.strip:=by kernel_rfl
def aji:J:=U [bx 2 false] [2] .ret
def ajj:J:=.cond (.t 32) aji .skip
def ajk:J:=U [ad 20 4,eH 21 20,ad 22 21,bw 23 22 (.ct (.t 3)),bw 24 22 (.ck .eql 3 (.t 23) (.c (.int .i64 0))),bw 25 22 (.ct (.t 24)),bo 26 25 (.ct (.t 0)),bo 27 25 (.ct (.t 3)),bo 28 25 (.idx 9 (.t 26) (.t 27)),⟨some 29,.call (.f 256) [(.t 28)],some (25,false)⟩,bo 30 25 (.un .not (.t 29)),bw 31 22 (.pick (.t 25) (.c (.bool true)) (.t 30)),ro 32 (.pick (.t 22) (.t 31) (.c (.bool false)))] [0,6,7,32] ajj
def ajl:J:=U [ad 10 0,ad 11 3,MY 12 9 10 11,ro 13 (.ck .geq 5 (.t 12) (.c (.int .u8 97))),ad 14 13,bw 15 14 (.ct (.t 0)),bw 16 14 (.ct (.t 3)),bw 17 14 (.idx 9 (.t 15) (.t 16)),bw 18 14 (.ck .leq 5 (.t 17) (.c (.int .u8 122))),ro 19 (.pick (.t 14) (.t 18) (.c (.bool false))),aJ 4 19] [0,3,4,6,7] ajk
def ajm:J:=.ca [a_ 33 .add 3 7 1,ad 7 33] (some [0,6,7])
def ajn:J:=.seq (.block 1 (U [ad 9 7,aJ 3 9] [0,3,6,7] ajl)) ajm
def ajo:J:=.seq (.cond (.t 8) .skip (.exit 0)) ajn
def OI:J:=U [bP 8 .lss 3 7 6] [0,6,7,8] ajo
def ajp:J:=.block 0 (.loop OI)
def ajq:J:=U [ad 34 0,bX 35 9 34,a_ 36 .geq 3 35 1,ad 37 36,bw 38 37 (.ct (.t 0)),bw 39 37 (.len 9 (.t 38)),bw 40 37 (.ck .leq 3 (.t 39) (.c (.int .i64 10))),ro 41 (.pick (.t 37) (.t 40) (.c (.bool false))),aJ 2 41] [2] .ret
def ajr:J:=.seq (U [ad 5 0,bX 6 9 5,lu 7 0] [0,6,7] ajp) ajq
def ajs:J:=U [bx 2 false] [0] ajr
theorem ajt:bn ⟨42,[0]⟩ (Tryz.f209.body.getD .skip)=some ajs.strip:=by kernel_rfl
def aju:J:=U [a1 4 121 2 0,aP 5 9 4,aP 6 9 1,bP 7 .eql 9 5 6,aJ 3 7] [3] .ret
def ajv:J:=U [ro 2 (.da 121 (.t 0)),bx 3 false] [1,2] aju
theorem ajw:bn ⟨8,[0,1]⟩ (Tryz.f258.body.getD .skip)=some ajv.strip:=by kernel_rfl
def ajx:J:=U [ad 17 5,aJ 4 17] [4] .ret
def ajy:J:=.cond (.t 16) ajx .skip
def ajz:J:=U [ad 11 1,ad 12 0,ad 13 5,cn 14 34 12 13,aP 15 121 14,ro 16 (.call (.t 11) [(.t 15)])] [0,1,5,7,8,16] ajy
def ajA:J:=.ca [a_ 18 .add 3 8 1,ad 8 18] (some [0,1,7,8])
def ajB:J:=.seq (.block 1 (U [ad 10 8,aJ 5 10] [0,1,5,7,8] ajz)) ajA
def ajC:J:=.seq (.cond (.t 9) .skip (.exit 0)) ajB
def OJ:J:=U [bP 9 .lss 3 8 7] [0,1,7,8,9] ajC
def ajD:J:=.block 0 (.loop OJ)
def ajE:J:=U [a7 4 (-1)] [4] .ret
def ajF:J:=.seq (U [ad 6 0,bX 7 34 6,lu 8 0] [0,1,7,8] ajD) ajE
def ajG:J:=U [a7 4 0] [0,1] ajF
theorem ajH:bn ⟨19,[0,1]⟩ (Tryz.f257.body.getD .skip)=some ajG.strip:=by kernel_rfl
def ajI:J:=U [ad 5 0,ro 6 (.iz 258 [(.t 3)]),dD 7 257 5 6,aJ 4 7] [4] .ret
def ajJ:J:=U [ro 3 (.da 9 (.t 1)),a7 4 0] [0,3] ajI
theorem ajK:bn ⟨8,[0,1]⟩ (Tryz.f210.body.getD .skip)=some ajJ.strip:=by kernel_rfl
def ajL:J:=.ca [a_ 8 .eql 2 4 4,aJ 5 8] (some [4,5])
def ajM:J:=.cond (.t 5) .skip ajL
def ajN:J:=U [a_ 7 .eql 2 4 3,aJ 5 7] [4,5] ajM
def ajO:J:=.cond (.t 5) .skip ajN
def ajP:J:=U [a7 2 1] [2] .ret
def ajQ:J:=U [a7 2 2] [2] .ret
def ajR:J:=.cond (.t 9) ajQ .skip
def ajS:J:=U [a_ 10 .eql 2 4 2,aJ 9 10] [9] ajR
def OK:J:=.cond (.t 5) ajP ajS
def ajT:J:=.block 0 (.seq (U [a_ 6 .eql 2 4 1,aJ 5 6] [4,5] ajO) OK)
def ajU:J:=U [a7 2 0] [2] .ret
def ajV:J:=.seq (U [a1 3 178 1 0,aP 4 2 3] [4] ajT) ajU
def ajW:J:=U [ro 1 (.da 178 (.t 0)),a7 2 0] [1] ajV
theorem ajX:bn ⟨11,[0]⟩ (Tryz.f188.body.getD .skip)=some ajW.strip:=by kernel_rfl
def ajY:J:=.cond (.t 7) .skip (.exit 0)
def ajZ:J:=U [a7 4 (-1)] [4] .ret
def aj0:J:=.cond (.t 14) ajZ .skip
def aj1:J:=.ca [ad 15 5,a1 16 121 2 2,aP 17 119 16,ad 18 1,cn 19 119 17 18,aP 20 178 19,dQ 21 188 20,a_ 22 .sub 3 21 1,bP 23 .add 3 15 22,aJ 5 23] (some [1,2,5])
def aj2:J:=.ca [ad 8 1,a_ 9 .add 3 8 1,aJ 1 9] (some [1,2,5])
def aj3:J:=.seq (.block 1 (.seq (U [ad 10 1,a1 11 121 2 2,aP 12 119 11,bX 13 119 12,bP 14 .geq 3 10 13] [1,2,5,14] aj0) aj1)) aj2
def OL:J:=.seq (U [ad 6 5,a_ 7 .gtr 3 6 0] [1,2,5,7] ajY) aj3
def aj4:J:=.block 0 (.loop OL)
def aj5:J:=U [ad 24 1,aJ 4 24] [4] .ret
def aj6:J:=.seq (U [a7 5 1] [1,2,5] aj4) aj5
def aj7:J:=U [ro 2 (.da 121 (.t 0)),a7 4 0] [1,2] aj6
theorem aj8:bn ⟨25,[0]⟩ (Tryz.f165.body.getD .skip)=some aj7.strip:=by kernel_rfl
def aj9:J:=.ca [a1 29 183 9 0,aP 30 2 29,a_ 31 .add 2 30 1,a1 32 183 9 0,dW 2 32 31] (some [0,2,3,4,8,9])
def aj_:J:=.cond (.t 28) aj9 .skip
def aka:J:=.ca [a_ 43 .add 3 37 1,ad 37 43] (some [2,3,4,9,10,36,37])
def akb:J:=.seq (.block 1 (.ju (G2 aB 187 4 2 39 ((List.range 3).map (·+2)) [ad 40 10,aP 41 183 9] [(.t 40),(.t 41)] (some 42) [aJ 10 42] [2,3,4,9,10,36,37]) (Mw 224 4 39 [ad 40 10,aP 41 183 9] [(.t 40),(.t 41)] (some 42) [aJ 10 42]))) aka
def akc:J:=.seq (.cond (.t 38) .skip (.exit 0)) akb
def OM:J:=U [bP 38 .lss 3 37 36] [2,3,4,9,10,36,37,38] akc
def akd:J:=.block 0 (.loop OM)
def ake:J:=U [ad 44 10,aJ 7 44] [2,3,4,7] .ret
def akf:J:=.seq (U [aP 35 178 8,dQ 36 188 35,lu 37 0] [2,3,4,9,10,36,37] akd) ake
def ON:J:=U [ad 33 0,a_ 34 .add 3 33 1,aJ 10 34] [2,3,4,8,9,10] akf
def akg:J:=.seq (U [a1 26 178 8 0,aP 27 2 26,a_ 28 .eql 2 27 4] [0,2,3,4,8,9,28] aj_) ON
def akh:J:=U [a1 20 183 6 0,aP 21 2 20,a1 22 178 8 0,aP 23 2 22,a_ 24 .eql 2 23 1,ro 25 (.e0 183 [(0,(.t 21)),(1,(.t 24))]),iF 9 183,dW 183 9 25] [0,2,3,4,8,9] akg
def aki:J:=U [a1 15 121 3 2,aP 16 119 15,ad 17 0,cn 18 119 16 17,aP 19 178 18,iF 8 178,dW 178 8 19] [0,2,3,4,6,8] akh
def akj:J:=U [aP 11 184 2,ad 12 0,aP 13 183 6,cn 14 184 11 12,dW 183 14 13] [0,2,3,4,6] aki
def OO:J:=U [ro 6 (.da 183 (.t 1)),a7 7 0] [0,2,3,4,6] akj
theorem akk:OO.ng (BU aB 187 [0,1,2,3,4] 5 2 4):=And.intro (True.intro) (And.intro (True.intro) (And.intro (True.intro) (And.intro (True.intro) (And.intro (And.intro (True.intro) (And.intro (True.intro) (True.intro))) (And.intro (True.intro) (And.intro (And.intro (True.intro) (And.intro (True.intro) (And.intro (And.intro (True.intro) (True.intro)) (And.intro (⟨224,2,39,3,_,_,_,_,_,rfl,rfl,(by kernel_rfl),rfl,rfl,rfl,rfl,rfl,rfl,rfl⟩) (True.intro))))) (And.intro (True.intro) (True.intro))))))))
theorem akl:bn ⟨45,[0,1,2,3,4]⟩ (Tryz.f187.body.getD .skip)=some OO.strip:=by kernel_rfl
def H8:J:=U [aP 15 184 3,aJ 2 15] [2] .ret
def akm:J:=U [aP 10 224 4,a1 11 121 1 1,aP 12 2 11,ro 13 (.e0 183 [(0,(.t 12))]),ro 14 (.call (.t 10) [(.c (.int .i64 0)),(.t 13)])] [3] H8
def aEX:J:=U [ro 9 (.iz 187 [(.t 3),(.t 1),(.t 4)]),dW 224 4 9] [1,3,4] akm
def akn:J:=.ju (G6 aB 187 4 2 10 9 [3,1,4] [a1 11 121 1 1,aP 12 2 11,ro 13 (.e0 183 [(0,(.t 12))])] [(.c (.int .i64 0)),(.t 13)] (some 14) [3] H8) (MB 224 187 4 10 9 [3,1,4] [a1 11 121 1 1,aP 12 2 11,ro 13 (.e0 183 [(0,(.t 12))])] [(.c (.int .i64 0)),(.t 13)] (some 14) H8.kZ)
def ako:J:=U [a1 5 121 1 2,aP 6 119 5,bX 7 119 6,ro 8 (.eS 184 (.t 7) (.t 7)),iF 3 184,dW 184 3 8] [1,3] akn
def OP:J:=U [ro 1 (.da 121 (.t 0)),j_ 2] [1] ako
theorem akp:OP.ng (yB aB):=And.intro (True.intro) (And.intro (True.intro) (⟨224,187,4,2,10,9,_,_,_,_,_,_,rfl,rfl,(by kernel_rfl),⟨Tryz.t224,_,_,(by kernel_rfl),rfl,rfl,rfl,rfl⟩,rfl,rfl,rfl,rfl,(by kernel_rfl)⟩))
theorem akq:bn ⟨16,[0]⟩ (Tryz.f141.body.getD .skip)=some OP.strip:=by kernel_rfl
def akr:J:=U [a1 26 178 1 0,aP 27 2 26,ro 28 (.call (.f 106) [(.t 27),(.c (.int .i64 0)),(.c (.int .i64 5))]),ad 29 28,bw 30 29 (.ct (.t 3)),bw 31 29 (.ct (.t 30)),bo 32 31 (.c1 178 (.t 1) 1),bo 33 31 (.ld 2 (.t 32)),bo 34 31 (.ck .eql 2 (.t 33) (.c (.int .i64 0))),bw 35 29 (.pick (.t 31) (.c (.bool true)) (.t 34)),ro 36 (.pick (.t 29) (.t 35) (.c (.bool false))),ad 37 36,bw 38 37 (.c1 178 (.t 1) 0),bw 39 37 (.ld 2 (.t 38)),bw 40 37 (.ck .eql 2 (.t 39) (.c (.int .i64 1))),bw 41 37 (.ct (.t 40)),bo 42 41 (.c1 178 (.t 1) 2),bo 43 41 (.ld 9 (.t 42)),⟨some 44,.ck .eql 9 (.t 43) (.c (.str [])),some (41,false)⟩,bw 45 37 (.pick (.t 41) (.c (.bool true)) (.t 44)),ro 46 (.pick (.t 37) (.t 45) (.c (.bool false))),ad 47 46,bw 48 47 (.ct (.t 4)),bw 49 47 (.ct (.t 48)),bo 50 49 (.c1 178 (.t 1) 3),bo 51 49 (.ld 146 (.t 50)),bo 52 49 (.len 146 (.t 51)),bo 53 49 (.ck .eql 3 (.t 52) (.c (.int .i64 0))),bw 54 47 (.pick (.t 49) (.c (.bool true)) (.t 53)),ro 55 (.pick (.t 47) (.t 54) (.c (.bool false))),aJ 2 55] [2] .ret
def aks:J:=U [a1 13 178 1 0,aP 14 2 13,a_ 15 .eql 2 14 1,ad 16 15,bo 17 16 (.c1 178 (.t 1) 0),bo 18 16 (.ld 2 (.t 17)),bo 19 16 (.ck .eql 2 (.t 18) (.c (.int .i64 3))),ro 20 (.pick (.t 16) (.c (.bool true)) (.t 19)),ad 21 20,bo 22 21 (.c1 178 (.t 1) 0),bo 23 21 (.ld 2 (.t 22)),bo 24 21 (.ck .eql 2 (.t 23) (.c (.int .i64 5))),ro 25 (.pick (.t 21) (.c (.bool true)) (.t 24)),aJ 4 25] [1,3,4] akr
def akt:J:=U [a1 5 178 1 0,aP 6 2 5,a_ 7 .eql 2 6 4,ad 8 7,bo 9 8 (.c1 178 (.t 1) 0),bo 10 8 (.ld 2 (.t 9)),bo 11 8 (.ck .eql 2 (.t 10) (.c (.int .i64 5))),ro 12 (.pick (.t 8) (.c (.bool true)) (.t 11)),aJ 3 12] [1,3] aks
def aku:J:=U [ro 1 (.da 178 (.t 0)),bx 2 false] [1] akt
theorem akv:bn ⟨56,[0]⟩ (Tryz.f286.body.getD .skip)=some aku.strip:=by kernel_rfl
def akw:J:=U [ad 3 0,dQ 4 209 3,ad 5 4,bw 6 5 (.ct (.t 0)),⟨some 7,.ck .neq 9 (.t 6) (.c (.str [116,97,117])),some (5,true)⟩,ro 8 (.pick (.t 5) (.t 7) (.c (.bool false))),aJ 2 8] [2] .ret
def akx:J:=U [bx 2 false] [0] akw
theorem aky:bn ⟨9,[0]⟩ (Tryz.f213.body.getD .skip)=some akx.strip:=by kernel_rfl
def akz:J:=U [ad 5 0,ad 6 1,a_ 7 .sub 2 6 1,ro 8 (.call (.f 106) [(.t 5),(.c (.int .i64 0)),(.t 7)]),aJ 4 8] [4] .ret
def akA:J:=U [bx 4 false] [0,1] akz
theorem akB:bn ⟨9,[0,1]⟩ (Tryz.f64.body.getD .skip)=some akA.strip:=by kernel_rfl
def akC:J:=U [ad 13 5,a_ 14 .eql 3 13 0,ad 15 14,bo 16 15 (.c1 178 (.t 2) 2),bo 17 15 (.ld 9 (.t 16)),⟨some 18,.ck .neq 9 (.t 17) (.c (.str [116,97,117])),some (15,false)⟩,bo 19 15 (.ct (.t 18)),bw 20 19 (.ct (.t 5)),bw 21 19 (.ck .leq 3 (.t 20) (.c (.int .i64 2))),bo 22 15 (.pick (.t 19) (.t 21) (.c (.bool false))),ro 23 (.pick (.t 15) (.c (.bool true)) (.t 22)),aJ 4 23] [4] .ret
def akD:J:=U [ad 26 5,a_ 27 .eql 3 26 1,aJ 4 27] [4] .ret
def akE:J:=U [ad 30 5,ad 31 1,a1 32 178 2 1,aP 33 2 32,cn 34 34 31 33,a1 35 121 34 1,aP 36 2 35,bP 37 .eql 2 30 36,aJ 4 37] [4] .ret
def akF:J:=.cond (.t 28) akE .skip
def akG:J:=U [a_ 29 .eql 2 10 5,aJ 28 29] [1,2,5,28] akF
def akH:J:=.cond (.t 24) akD akG
def akI:J:=U [a_ 25 .eql 2 10 3,aJ 24 25] [1,2,5,10,24] akH
def akJ:J:=.cond (.t 11) akC akI
def akK:J:=.block 0 (U [a_ 12 .eql 2 10 1,aJ 11 12] [1,2,5,10,11] akJ)
def akL:J:=U [bx 4 true] [4] .ret
def akM:J:=.seq (U [a1 9 178 2 0,aP 10 2 9] [1,2,5,10] akK) akL
def akN:J:=U [a1 6 178 2 3,aP 7 146 6,bX 8 146 7,aJ 5 8] [1,2,5] akM
def akO:J:=U [ro 2 (.da 178 (.t 0)),bx 4 false] [1,2] akN
theorem akP:bn ⟨38,[0,1]⟩ (Tryz.f287.body.getD .skip)=some akO.strip:=by kernel_rfl
def akQ:J:=U [ad 3 0,ro 4 (.call (.f 106) [(.t 3),(.c (.int .i64 0)),(.c (.int .i64 63))]),aJ 2 4] [2] .ret
def akR:J:=U [bx 2 false] [0] akQ
theorem akS:bn ⟨5,[0]⟩ (Tryz.f191.body.getD .skip)=some akR.strip:=by kernel_rfl
def akT:J:=U [a1 9 196 2 1,aP 10 2 9,dQ 11 191 10,aJ 4 11] [4] .ret
def akU:J:=U [a1 14 196 2 1,aP 15 2 14,ad 16 1,a_ 17 .sub 2 16 1,ro 18 (.call (.f 106) [(.t 15),(.c (.int .i64 0)),(.t 17)]),aJ 4 18] [4] .ret
def akV:J:=U [a1 21 196 2 1,aP 22 2 21,ro 23 (.call (.f 106) [(.t 22),(.c (.int .i64 0)),(.c (.int .i64 8))]),aJ 4 23] [4] .ret
def akW:J:=U [a1 26 196 2 1,aP 27 2 26,a_ 28 .eql 2 27 0,aJ 4 28] [4] .ret
def akX:J:=.cond (.t 24) akW .skip
def akY:J:=U [a_ 25 .eql 2 6 3,aJ 24 25] [2,24] akX
def akZ:J:=.cond (.t 19) akV akY
def ak0:J:=U [a_ 20 .eql 2 6 2,aJ 19 20] [2,6,19] akZ
def ak1:J:=.cond (.t 12) akU ak0
def ak2:J:=U [a_ 13 .eql 2 6 1,aJ 12 13] [1,2,6,12] ak1
def ak3:J:=.cond (.t 7) akT ak2
def ak4:J:=.block 0 (U [a_ 8 .eql 2 6 0,aJ 7 8] [1,2,6,7] ak3)
def ak5:J:=U [bx 4 false] [4] .ret
def ak6:J:=.seq (U [a1 5 196 2 0,aP 6 2 5] [1,2,6] ak4) ak5
def ak7:J:=U [ro 2 (.da 196 (.t 0)),bx 4 false] [1,2] ak6
theorem ak8:bn ⟨29,[0,1]⟩ (Tryz.f268.body.getD .skip)=some ak7.strip:=by kernel_rfl
def ak9:J:=U [a7 2 2] [2] .ret
def ak_:J:=U [a7 2 1] [2] .ret
def ala:J:=.cond (.t 7) ak_ .skip
def alb:J:=U [a_ 8 .eql 2 4 3,aJ 7 8] [7] ala
def alc:J:=.cond (.t 5) ak9 alb
def ald:J:=.block 0 (U [a_ 6 .eql 2 4 2,aJ 5 6] [4,5] alc)
def ale:J:=U [a7 2 0] [2] .ret
def alf:J:=.seq (U [a1 3 196 1 0,aP 4 2 3] [4] ald) ale
def alg:J:=U [ro 1 (.da 196 (.t 0)),a7 2 0] [1] alf
theorem alh:bn ⟨9,[0]⟩ (Tryz.f269.body.getD .skip)=some alg.strip:=by kernel_rfl
def ali:J:=U [bx 6 false] [6] .ret
def alj:J:=.cond (.t 24) ali .skip
def alk:J:=U [bx 6 false] [6] .ret
def alm:J:=.cond (.t 38) alk .skip
def aln:J:=.ca [ad 39 7,aP 40 196 9,dQ 41 269 40,a_ 42 .sub 3 41 1,bP 43 .add 3 39 42,aJ 7 43] (some [1,7,25,26,27])
def alo:J:=.seq (U [ad 31 7,a_ 32 .eql 3 31 0,ad 33 32,bo 34 33 (.ld 196 (.t 9)),bo 35 33 (.ct (.t 1)),⟨some 36,.call (.f 268) [(.t 34),(.t 35)],some (33,false)⟩,bo 37 33 (.un .not (.t 36)),ro 38 (.pick (.t 33) (.c (.bool true)) (.t 37))] [1,7,9,25,26,27,38] alm) aln
def alp:J:=.ca [a_ 44 .add 3 27 1,ad 27 44] (some [1,7,25,26,27])
def alq:J:=.seq (.block 1 (U [cn 29 145 25 27,aP 30 196 29,iF 9 196,dW 196 9 30] [1,7,9,25,26,27] alo)) alp
def alr:J:=.seq (.cond (.t 28) .skip (.exit 0)) alq
def OQ:J:=U [bP 28 .lss 3 27 26] [1,7,25,26,27,28] alr
def als:J:=.block 0 (.loop OQ)
def alu:J:=U [ad 45 7,a_ 46 .eql 3 45 0,aJ 6 46] [6] .ret
def alv:J:=.seq (U [ad 25 0,bX 26 145 25,lu 27 0] [1,7,25,26,27] als) alu
def alw:J:=U [a7 7 1] [0,1,7] alv
def alx:J:=.seq (U [ad 10 1,ro 11 (.call (.f 106) [(.t 10),(.c (.int .i64 0)),(.c (.int .i64 29))]),eH 12 11,ad 13 12,bo 14 13 (.ct (.t 2)),⟨some 15,.call (.f 106) [(.t 14),(.c (.int .i64 1)),(.c (.int .i64 60))],some (13,false)⟩,bo 16 13 (.un .not (.t 15)),ro 17 (.pick (.t 13) (.c (.bool true)) (.t 16)),ad 18 17,bo 19 18 (.ct (.t 0)),bo 20 18 (.len 145 (.t 19)),bo 21 18 (.ct (.t 2)),⟨some 22,.call (.f 106) [(.t 20),(.c (.int .i64 1)),(.t 21)],some (18,false)⟩,bo 23 18 (.un .not (.t 22)),ro 24 (.pick (.t 18) (.c (.bool true)) (.t 23))] [0,1,24] alj) alw
def aly:J:=U [bx 6 false] [0,1,2] alx
theorem alz:bn ⟨47,[0,1,2]⟩ (Tryz.f226.body.getD .skip)=some aly.strip:=by kernel_rfl
def alA:J:=U [ad 4 0,a1 5 183 1 0,aP 6 2 5,ro 7 (.call (.f 226) [(.t 4),(.t 6),(.c (.int .i64 15))]),eH 8 7,aJ 3 8] [3] .ret
def alB:J:=U [bx 3 false] [0,1] alA
theorem alC:bn ⟨9,[0,1]⟩ (Tryz.f288.body.getD .skip)=some alB.strip:=by kernel_rfl
def alD:J:=U [ad 17 5,aJ 4 17] [4] .ret
def alE:J:=.cond (.t 16) alD .skip
def alF:J:=U [ad 11 1,ad 12 0,ad 13 5,cn 14 146 12 13,aP 15 145 14,ro 16 (.call (.t 11) [(.t 15)])] [0,1,5,7,8,16] alE
def alG:J:=.ca [a_ 18 .add 3 8 1,ad 8 18] (some [0,1,7,8])
def alH:J:=.seq (.block 1 (U [ad 10 8,aJ 5 10] [0,1,5,7,8] alF)) alG
def alI:J:=.seq (.cond (.t 9) .skip (.exit 0)) alH
def OR:J:=U [bP 9 .lss 3 8 7] [0,1,7,8,9] alI
def alJ:J:=.block 0 (.loop OR)
def alK:J:=U [a7 4 (-1)] [4] .ret
def alL:J:=.seq (U [ad 6 0,bX 7 146 6,lu 8 0] [0,1,7,8] alJ) alK
def alM:J:=U [a7 4 0] [0,1] alL
theorem alN:bn ⟨19,[0,1]⟩ (Tryz.f267.body.getD .skip)=some alM.strip:=by kernel_rfl
def alO:J:=U [ad 5 0,ad 6 1,dD 7 267 5 6,a_ 8 .geq 3 7 0,aJ 4 8] [4] .ret
def alP:J:=U [bx 4 false] [0,1] alO
theorem alQ:bn ⟨9,[0,1]⟩ (Tryz.f223.body.getD .skip)=some alP.strip:=by kernel_rfl
def alR:J:=U [a7 6 2] [6] .ret
def alS:J:=U [a7 6 3] [6] .ret
def alT:J:=U [a7 6 4] [6] .ret
def alU:J:=U [a7 6 5] [6] .ret
def alV:J:=U [a7 6 6] [6] .ret
def alW:J:=U [a7 6 7] [6] .ret
def alX:J:=U [a7 6 8] [6] .ret
def alY:J:=.cond (.t 72) alX .skip
def alZ:J:=U [a1 73 178 3 3,aP 74 146 73,ro 75 (.iz 288 [(.t 5)]),dD 76 223 74 75,aJ 72 76] [72] alY
def al0:J:=.cond (.t 63) alW alZ
def al1:J:=U [a1 64 178 3 0,aP 65 2 64,a_ 66 .eql 2 65 4,ad 67 66,bw 68 67 (.c1 183 (.t 5) 0),bw 69 67 (.ld 2 (.t 68)),bw 70 67 (.ck .geq 2 (.t 69) (.c (.int .i64 6))),ro 71 (.pick (.t 67) (.t 70) (.c (.bool false))),aJ 63 71] [3,5,63] al0
def al2:J:=.cond (.t 54) alV al1
def al3:J:=U [a1 55 178 3 0,aP 56 2 55,a_ 57 .eql 2 56 5,ad 58 57,bw 59 58 (.c1 183 (.t 5) 1),bw 60 58 (.ld 4 (.t 59)),bw 61 58 (.un .not (.t 60)),ro 62 (.pick (.t 58) (.t 61) (.c (.bool false))),aJ 54 62] [3,5,54] al2
def al4:J:=.cond (.t 49) alU al3
def al5:J:=U [aP 50 178 3,ad 51 1,dD 52 287 50 51,eH 53 52,aJ 49 53] [3,5,49] al4
def OS:J:=.cond (.t 26) alT al5
def al6:J:=U [a1 27 178 3 0,aP 28 2 27,a_ 29 .eql 2 28 4,ad 30 29,bw 31 30 (.c1 178 (.t 3) 1),bw 32 30 (.ld 2 (.t 31)),⟨some 33,.call (.f 106) [(.t 32),(.c (.int .i64 1)),(.c (.int .i64 7))],some (30,true)⟩,bw 34 30 (.un .not (.t 33)),ro 35 (.pick (.t 30) (.t 34) (.c (.bool false))),ad 36 35,bo 37 36 (.c1 178 (.t 3) 0),bo 38 36 (.ld 2 (.t 37)),bo 39 36 (.ck .eql 2 (.t 38) (.c (.int .i64 5))),bo 40 36 (.ct (.t 39)),bw 41 40 (.c1 178 (.t 3) 1),bw 42 40 (.ld 2 (.t 41)),bw 43 40 (.ct (.t 1)),bw 44 40 (.len 34 (.t 43)),⟨some 45,.call (.f 64) [(.t 42),(.t 44)],some (40,true)⟩,bw 46 40 (.un .not (.t 45)),bo 47 36 (.pick (.t 40) (.t 46) (.c (.bool false))),ro 48 (.pick (.t 36) (.c (.bool true)) (.t 47)),aJ 26 48] [1,3,5,26] OS
def OT:J:=.cond (.t 11) alS al6
def al7:J:=U [a1 12 178 3 0,aP 13 2 12,a_ 14 .eql 2 13 1,ad 15 14,bw 16 15 (.c1 178 (.t 3) 2),bw 17 15 (.ld 9 (.t 16)),⟨some 18,.ck .neq 9 (.t 17) (.c (.str [116,97,117])),some (15,true)⟩,ro 19 (.pick (.t 15) (.t 18) (.c (.bool false))),ad 20 19,bw 21 20 (.c1 178 (.t 3) 2),bw 22 20 (.ld 9 (.t 21)),⟨some 23,.call (.f 213) [(.t 22)],some (20,true)⟩,bw 24 20 (.un .not (.t 23)),ro 25 (.pick (.t 20) (.t 24) (.c (.bool false))),aJ 11 25] [1,3,5,11] OT
def al8:J:=.cond (.t 7) alR al7
def al9:J:=U [a7 6 0] [6] .ret
def al_:J:=.seq (.block 0 (U [aP 8 178 3,dQ 9 286 8,eH 10 9,aJ 7 10] [1,3,5,7] al8)) al9
def ama:J:=U [ro 3 (.da 178 (.t 0)),ro 5 (.da 183 (.t 2)),a7 6 0] [1,3,5] al_
theorem amb:bn ⟨77,[0,1,2]⟩ (Tryz.f259.body.getD .skip)=some ama.strip:=by kernel_rfl
def amc:J:=U [a7 4 0,a7 5 1] [4,5] .ret
def amd:J:=.cond (.t 22) amc .skip
def ame:J:=U [ad 42 7,ad 43 9,aJ 4 42,aJ 5 43] [4,5] .ret
def amf:J:=.cond (.t 41) ame .skip
def amg:J:=U [ad 40 9,a_ 41 .neq 2 40 0] [0,6,7,9,26,27,28,41] amf
def amh:J:=hW [aP 33 178 8,ad 34 0,ad 35 6,ad 36 7,cn 37 184 35 36,aP 38 183 37,MZ 39 259 33 34 38,aJ 9 39] [[],[],[],[],[2,3],[4],[0,1,5],[6,6,0,1,2,3,4,5,6]] [0,6,7,9,26,27,28] amg
def ami:J:=.ca [a_ 44 .add 3 28 1,ad 28 44] (some [0,6,26,27,28])
def amj:J:=.seq (.block 1 (U [ad 30 28,cn 31 119 26 28,aP 32 178 31,iF 8 178,aJ 7 30,dW 178 8 32] [0,6,7,8,26,27,28] amh)) ami
def amk:J:=.seq (.cond (.t 29) .skip (.exit 0)) amj
def OU:J:=U [bP 29 .lss 3 28 27] [0,6,26,27,28,29] amk
def aml:J:=.block 0 (.loop OU)
def amm:J:=U [a7 4 0,a7 5 0] [4,5] .ret
def amn:J:=.seq (U [a1 25 121 3 2,aP 26 119 25,bX 27 119 26,lu 28 0] [0,6,26,27,28] aml) amm
def amo:J:=U [aP 23 121 3,dQ 24 141 23,aJ 6 24] [0,3,6] amn
def amp:J:=.seq (hW [a1 10 121 3 2,aP 11 119 10,bX 12 119 11,ro 13 (.call (.f 106) [(.t 12),(.c (.int .i64 1)),(.c (.int .i64 20))]),eH 14 13,ad 15 14,bo 16 15 (.ld 121 (.t 3)),⟨some 17,.call (.f 165) [(.t 16),(.c (.int .i64 0))],some (15,false)⟩,bo 18 15 (.c1 121 (.t 3) 2),bo 19 15 (.ld 119 (.t 18)),bo 20 15 (.len 119 (.t 19)),bo 21 15 (.ck .neq 3 (.t 17) (.t 20)),ro 22 (.pick (.t 15) (.c (.bool true)) (.t 21))] [[],[0],[1],[2],[3],[4,3],[5],[6,5,5],[5],[8,5],[9,5],[7,10,5],[5,11]] [0,3,22] amd) amo
def amq:J:=U [ro 3 (.da 121 (.t 1)),a7 4 0,a7 5 0] [0,3] amp
theorem amr:bn ⟨45,[0,1]⟩ (Tryz.f211.body.getD .skip)=some amq.strip:=by kernel_rfl
def ams:J:=U [bx 2 false] [2] .ret
def amt:J:=.cond (.t 15) ams .skip
def amu:J:=U [bx 2 false] [2] .ret
def amv:J:=.cond (.t 35) amu .skip
def amw:J:=U [bx 2 false] [2] .ret
def amx:J:=.cond (.t 43) amw .skip
def amy:J:=U [ad 42 6,a_ 43 .neq 2 42 0] [0,16,17,18,43] amx
def amz:J:=U [ad 37 0,aP 38 121 4,dD 39 211 37 38,ad 36 39,qc 40 36 0,qc 41 36 1,aJ 5 40,aJ 6 41] [0,6,16,17,18] amy
def amA:J:=.seq (hW [a1 23 121 4 0,aP 24 9 23,dQ 25 209 24,eH 26 25,ad 27 26,bo 28 27 (.ct (.t 0)),bo 29 27 (.ct (.t 3)),bo 30 27 (.fG 34 (.t 28) none (some (.t 29))),bo 31 27 (.c1 121 (.t 4) 0),bo 32 27 (.ld 9 (.t 31)),⟨some 33,.call (.f 210) [(.t 30),(.t 32)],some (27,false)⟩,bo 34 27 (.ck .geq 3 (.t 33) (.c (.int .i64 0))),ro 35 (.pick (.t 27) (.c (.bool true)) (.t 34))] [[],[0],[1],[2],[3,2],[4],[4],[5,6,4],[4],[8,4],[7,9,4,4],[10,4],[4,11]] [0,4,16,17,18,35] amv) amz
def amB:J:=.ca [a_ 44 .add 3 18 1,ad 18 44] (some [0,16,17,18])
def amC:J:=.seq (.block 1 (U [ad 20 18,cn 21 34 16 18,aP 22 121 21,iF 4 121,aJ 3 20,dW 121 4 22] [0,3,4,16,17,18] amA)) amB
def amD:J:=.seq (.cond (.t 19) .skip (.exit 0)) amC
def OV:J:=U [bP 19 .lss 3 18 17] [0,16,17,18,19] amD
def amE:J:=.block 0 (.loop OV)
def amF:J:=U [bx 2 true] [2] .ret
def amG:J:=.seq (U [ad 16 0,bX 17 34 16,lu 18 0] [0,16,17,18] amE) amF
def amH:J:=.seq (U [ad 7 0,bX 8 34 7,ro 9 (.call (.f 106) [(.t 8),(.c (.int .i64 1)),(.c (.int .i64 4))]),eH 10 9,ad 11 10,bo 12 11 (.ct (.t 0)),⟨some 13,.call (.f 208) [(.t 12)],some (11,false)⟩,bo 14 11 (.un .not (.t 13)),ro 15 (.pick (.t 11) (.c (.bool true)) (.t 14))] [0,15] amt) amG
def amI:J:=U [bx 2 false] [0] amH
theorem amJ:bn ⟨45,[0]⟩ (Tryz.f156.body.getD .skip)=some amI.strip:=by kernel_rfl
def amK:J:=U [ad 3 0,dQ 4 191 3,eH 5 4,aJ 2 5] [2] .ret
def amL:J:=U [bx 2 false] [0] amK
theorem amM:bn ⟨6,[0]⟩ (Tryz.f190.body.getD .skip)=some amL.strip:=by kernel_rfl
def amN:J:=U [ad 17 5,aJ 4 17] [4] .ret
def amO:J:=.cond (.t 16) amN .skip
def amP:J:=U [ad 11 1,ad 12 0,ad 13 5,cn 14 46 12 13,aP 15 2 14,ro 16 (.call (.t 11) [(.t 15)])] [0,1,5,7,8,16] amO
def amQ:J:=.ca [a_ 18 .add 3 8 1,ad 8 18] (some [0,1,7,8])
def amR:J:=.seq (.block 1 (U [ad 10 8,aJ 5 10] [0,1,5,7,8] amP)) amQ
def amS:J:=.seq (.cond (.t 9) .skip (.exit 0)) amR
def OW:J:=U [bP 9 .lss 3 8 7] [0,1,7,8,9] amS
def amT:J:=.block 0 (.loop OW)
def amU:J:=U [a7 4 (-1)] [4] .ret
def amV:J:=.seq (U [ad 6 0,bX 7 46 6,lu 8 0] [0,1,7,8] amT) amU
def amW:J:=U [a7 4 0] [0,1] amV
theorem amX:bn ⟨19,[0,1]⟩ (Tryz.f246.body.getD .skip)=some amW.strip:=by kernel_rfl
def amY:J:=U [ad 5 0,ad 6 1,dD 7 246 5 6,a_ 8 .geq 3 7 0,aJ 4 8] [4] .ret
def amZ:J:=U [bx 4 false] [0,1] amY
theorem am0:bn ⟨9,[0,1]⟩ (Tryz.f189.body.getD .skip)=some amZ.strip:=by kernel_rfl
def am1:J:=U [ad 3 0,ro 4 (.call (.f 189) [(.t 3),(.f 190)]),eH 5 4,aJ 2 5] [2] .ret
def am2:J:=U [bx 2 false] [0] am1
theorem am3:bn ⟨6,[0]⟩ (Tryz.f142.body.getD .skip)=some am2.strip:=by kernel_rfl
def am4:J:=hW [a1 5 100 3 0,aP 6 2 5,ad 7 0,bX 8 34 7,dD 9 64 6 8,ad 10 9,bw 11 10 (.c1 100 (.t 3) 1),bw 12 10 (.ld 46 (.t 11)),bw 13 10 (.len 46 (.t 12)),bw 14 10 (.ct (.t 0)),bw 15 10 (.c1 100 (.t 3) 0),bw 16 10 (.ld 2 (.t 15)),bw 17 10 (.fc 34 (.t 14) (.t 16)),bw 18 10 (.c1 121 (.t 17) 1),bw 19 10 (.ld 2 (.t 18)),bw 20 10 (.ck .eql 2 (.t 13) (.t 19)),ro 21 (.pick (.t 10) (.t 20) (.c (.bool false))),ad 22 21,bw 23 22 (.c1 100 (.t 3) 1),bw 24 22 (.ld 46 (.t 23)),⟨some 25,.call (.f 142) [(.t 24)],some (22,true)⟩,ro 26 (.pick (.t 22) (.t 25) (.c (.bool false))),aJ 4 26] [[],[0],[],[2],[1,3],[4,4],[5],[6,5],[7,5],[5],[5],[10,5],[9,11,5],[12,5],[13,5],[8,14,5],[5,15],[16,5],[17],[18,17],[19,17,17],[17,20],[21,20,0,1,2,3,4,5,6,7,8,9,10,11,12,13,14,15,16,17,18,19,20,21]] [4] .ret
def am5:J:=U [ro 3 (.da 100 (.t 1)),bx 4 false] [0,3] am4
theorem am6:bn ⟨27,[0,1]⟩ (Tryz.f159.body.getD .skip)=some am5.strip:=by kernel_rfl
def am7:J:=U [a1 4 38 1 0,aP 5 34 4,aP 6 100 2,dD 7 159 5 6,eH 8 7,aJ 3 8] [3] .ret
def am8:J:=U [ro 2 (.da 100 (.t 0)),bx 3 false] [1,2] am7
theorem am9:bn ⟨9,[0,1]⟩ (Tryz.f158.body.getD .skip)=some am8.strip:=by kernel_rfl
def am_:J:=U [ad 17 5,aJ 4 17] [4] .ret
def ana:J:=.cond (.t 16) am_ .skip
def anb:J:=U [ad 11 1,ad 12 0,ad 13 5,cn 14 35 12 13,aP 15 100 14,ro 16 (.call (.t 11) [(.t 15)])] [0,1,5,7,8,16] ana
def anc:J:=.ca [a_ 18 .add 3 8 1,ad 8 18] (some [0,1,7,8])
def ane:J:=.seq (.block 1 (U [ad 10 8,aJ 5 10] [0,1,5,7,8] anb)) anc
def anf:J:=.seq (.cond (.t 9) .skip (.exit 0)) ane
def OX:J:=U [bP 9 .lss 3 8 7] [0,1,7,8,9] anf
def ang:J:=.block 0 (.loop OX)
def anh:J:=U [a7 4 (-1)] [4] .ret
def ani:J:=.seq (U [ad 6 0,bX 7 35 6,lu 8 0] [0,1,7,8] ang) anh
def anj:J:=U [a7 4 0] [0,1] ani
theorem ank:bn ⟨19,[0,1]⟩ (Tryz.f212.body.getD .skip)=some anj.strip:=by kernel_rfl
def anl:J:=U [ad 5 0,ad 6 1,dD 7 212 5 6,a_ 8 .geq 3 7 0,aJ 4 8] [4] .ret
def anm:J:=U [bx 4 false] [0,1] anl
theorem ann:bn ⟨9,[0,1]⟩ (Tryz.f157.body.getD .skip)=some anm.strip:=by kernel_rfl
def ano:J:=U [ad 3 0,ad 4 0,bP 5 .neq 9 3 4,aJ 2 5] [2] .ret
def anp:J:=U [bx 2 false] [0] ano
theorem anq:bn ⟨6,[0]⟩ (Tryz.f299.body.getD .skip)=some anp.strip:=by kernel_rfl
def anr:J:=U [a7 4 0] [4] .ret
def ans:J:=.cond (.t 12) anr .skip
def ant:J:=U [a7 4 (-1)] [4] .ret
def anu:J:=.seq (U [ad 12 6] [12] ans) ant
def anv:J:=.cond (.t 11) anu .skip
def anw:J:=U [a7 4 1] [4] .ret
def anx:J:=.cond (.t 13) anw .skip
def anz:J:=U [a7 4 (-1)] [4] .ret
def anA:J:=.cond (.t 16) anz .skip
def anB:J:=U [a7 4 1] [4] .ret
def anC:J:=.cond (.t 19) anB .skip
def anD:J:=U [a7 4 0] [4] .ret
def anE:J:=.seq (U [ad 17 0,ad 18 1,bP 19 .gtr 9 17 18] [19] anC) anD
def anF:J:=.seq (U [ad 14 0,ad 15 1,bP 16 .lss 9 14 15] [0,1,16] anA) anE
def anG:J:=.seq (U [ad 13 6] [0,1,13] anx) anF
def anH:J:=.seq (U [ad 11 5] [0,1,6,11] anv) anG
def anI:J:=U [ad 9 1,dQ 10 299 9,aJ 6 10] [0,1,5,6] anH
def anJ:J:=U [ad 7 0,dQ 8 299 7,aJ 5 8] [0,1,5] anI
def anK:J:=U [a7 4 0] [0,1] anJ
theorem anL:bn ⟨20,[0,1]⟩ (Tryz.f289.body.getD .skip)=some anK.strip:=by kernel_rfl
def anM:J:=U [a7 4 1] [4] .ret
def anN:J:=.cond (.t 19) anM .skip
def anO:J:=U [ad 29 8,aJ 4 29] [4] .ret
def anP:J:=.cond (.t 28) anO .skip
def anQ:J:=U [ad 27 8,a_ 28 .neq 3 27 0] [0,1,8,9,10,11,28] anP
def anR:J:=U [ad 24 6,ad 25 7,dD 26 289 24 25,aJ 8 26] [0,1,8,9,10,11] anQ
def anS:J:=U [ad 20 1,ad 21 5,cn 22 25 20 21,aP 23 9 22,aJ 7 23] [0,1,6,7,9,10,11] anR
def anT:J:=.seq (U [ad 16 5,ad 17 1,bX 18 25 17,bP 19 .geq 3 16 18] [0,1,5,6,9,10,11,19] anN) anS
def anU:J:=.ca [a_ 30 .add 3 11 1,ad 11 30] (some [0,1,9,10,11])
def anV:J:=.seq (.block 1 (U [ad 13 11,cn 14 25 9 11,aP 15 9 14,aJ 5 13,aJ 6 15] [0,1,5,6,9,10,11] anT)) anU
def anW:J:=.seq (.cond (.t 12) .skip (.exit 0)) anV
def OY:J:=U [bP 12 .lss 3 11 10] [0,1,9,10,11,12] anW
def anX:J:=.block 0 (.loop OY)
def anY:J:=U [a7 4 (-1)] [4] .ret
def anZ:J:=.cond (.t 35) anY .skip
def an0:J:=U [a7 4 0] [4] .ret
def an1:J:=.seq (U [ad 31 0,bX 32 25 31,ad 33 1,bX 34 25 33,bP 35 .lss 3 32 34] [35] anZ) an0
def an2:J:=.seq (U [ad 9 0,bX 10 25 9,lu 11 0] [0,1,9,10,11] anX) an1
def an3:J:=U [a7 4 0] [0,1] an2
theorem an4:bn ⟨36,[0,1]⟩ (Tryz.f260.body.getD .skip)=some an3.strip:=by kernel_rfl
def an5:J:=U [a1 5 124 2 0,aP 6 9 5,a1 7 124 2 1,aP 8 9 7,ro 9 (.dG 25 2 [(0,(.t 6)),(1,(.t 8))]),a1 10 124 3 0,aP 11 9 10,a1 12 124 3 1,aP 13 9 12,ro 14 (.dG 25 2 [(0,(.t 11)),(1,(.t 13))]),dD 15 260 9 14,aJ 4 15] [4] .ret
def an6:J:=U [ro 2 (.da 124 (.t 0)),ro 3 (.da 124 (.t 1)),a7 4 0] [2,3] an5
theorem an7:bn ⟨16,[0,1]⟩ (Tryz.f214.body.getD .skip)=some an6.strip:=by kernel_rfl
def an8:J:=U [a1 4 124 2 0,aP 5 9 4,a1 6 124 1 2,aP 7 9 6,bP 8 .eql 9 5 7,ad 9 8,bo 10 9 (.c1 124 (.t 2) 1),bo 11 9 (.ld 9 (.t 10)),bo 12 9 (.c1 124 (.t 1) 2),bo 13 9 (.ld 9 (.t 12)),bo 14 9 (.ck .eql 9 (.t 11) (.t 13)),ro 15 (.pick (.t 9) (.c (.bool true)) (.t 14)),aJ 3 15] [3] .ret
def an9:J:=U [ro 2 (.da 124 (.t 0)),bx 3 false] [1,2] an8
theorem an_:bn ⟨16,[0,1]⟩ (Tryz.f216.body.getD .skip)=some an9.strip:=by kernel_rfl
def aoa:J:=U [ad 17 5,aJ 4 17] [4] .ret
def aob:J:=.cond (.t 16) aoa .skip
def aoc:J:=U [ad 11 1,ad 12 0,ad 13 5,cn 14 36 12 13,aP 15 124 14,ro 16 (.call (.t 11) [(.t 15)])] [0,1,5,7,8,16] aob
def aod:J:=.ca [a_ 18 .add 3 8 1,ad 8 18] (some [0,1,7,8])
def aoe:J:=.seq (.block 1 (U [ad 10 8,aJ 5 10] [0,1,5,7,8] aoc)) aod
def aof:J:=.seq (.cond (.t 9) .skip (.exit 0)) aoe
def OZ:J:=U [bP 9 .lss 3 8 7] [0,1,7,8,9] aof
def aog:J:=.block 0 (.loop OZ)
def aoh:J:=U [a7 4 (-1)] [4] .ret
def aoi:J:=.seq (U [ad 6 0,bX 7 36 6,lu 8 0] [0,1,7,8] aog) aoh
def aoj:J:=U [a7 4 0] [0,1] aoi
theorem aok:bn ⟨19,[0,1]⟩ (Tryz.f261.body.getD .skip)=some aoj.strip:=by kernel_rfl
def aol:J:=U [ad 5 0,ad 6 1,dD 7 261 5 6,a_ 8 .geq 3 7 0,aJ 4 8] [4] .ret
def aom:J:=U [bx 4 false] [0,1] aol
theorem aon:bn ⟨9,[0,1]⟩ (Tryz.f215.body.getD .skip)=some aom.strip:=by kernel_rfl
def aoo:J:=U [bx 2 false] [2] .ret
def aop:J:=.cond (.t 48) aoo .skip
def aoq:J:=U [bx 2 false] [2] .ret
def aor:J:=.cond (.t 51) aoq .skip
def aos:J:=U [ad 49 0,ro 50 (.iz 216 [(.t 4)]),dD 51 215 49 50] [0,5,6,7,51] aor
def aot:J:=.seq (hW [a1 12 124 4 0,aP 13 9 12,dQ 14 213 13,eH 15 14,ad 16 15,bo 17 16 (.c1 124 (.t 4) 1),bo 18 16 (.ld 9 (.t 17)),⟨some 19,.call (.f 213) [(.t 18)],some (16,false)⟩,bo 20 16 (.un .not (.t 19)),ro 21 (.pick (.t 16) (.c (.bool true)) (.t 20)),ad 22 21,bo 23 22 (.c1 124 (.t 4) 2),bo 24 22 (.ld 9 (.t 23)),⟨some 25,.call (.f 213) [(.t 24)],some (22,false)⟩,bo 26 22 (.un .not (.t 25)),ro 27 (.pick (.t 22) (.c (.bool true)) (.t 26)),ad 28 27,bo 29 28 (.c1 124 (.t 4) 0),bo 30 28 (.ld 9 (.t 29)),bo 31 28 (.c1 124 (.t 4) 1),bo 32 28 (.ld 9 (.t 31)),bo 33 28 (.ck .gtr 9 (.t 30) (.t 32)),ro 34 (.pick (.t 28) (.c (.bool true)) (.t 33)),ad 35 34,bo 36 35 (.ct (.t 3)),bo 37 35 (.ck .gtr 3 (.t 36) (.c (.int .i64 0))),bo 38 35 (.ct (.t 37)),bw 39 38 (.ct (.t 0)),bw 40 38 (.ct (.t 3)),bw 41 38 (.ck .sub 3 (.t 40) (.c (.int .i64 1))),bw 42 38 (.fc 36 (.t 39) (.t 41)),bw 43 38 (.ld 124 (.t 42)),bw 44 38 (.ld 124 (.t 4)),⟨some 45,.call (.f 214) [(.t 43),(.t 44)],some (38,true)⟩,bw 46 38 (.ck .geq 3 (.t 45) (.c (.int .i64 0))),bo 47 35 (.pick (.t 38) (.t 46) (.c (.bool false))),ro 48 (.pick (.t 35) (.c (.bool true)) (.t 47))] [[],[0],[1],[2],[3,2],[4],[5,4],[6,4,4],[7,4],[4,8],[9,7],[10],[11,10],[12,10,10],[13,10],[10,14],[15,13],[16],[17,16],[16],[19,16],[18,20,16],[16,21],[22,16],[23],[24,23],[25,23,23],[26],[26],[28,26],[27,29,26],[30,26],[26],[31,32,26,26],[33,26],[26,34,23],[23,35]] [0,4,5,6,7,48] aop) aos
def aou:J:=.ca [a_ 52 .add 3 7 1,ad 7 52] (some [0,5,6,7])
def aov:J:=.seq (.block 1 (U [ad 9 7,cn 10 36 5 7,aP 11 124 10,iF 4 124,aJ 3 9,dW 124 4 11] [0,3,4,5,6,7] aot)) aou
def aow:J:=.seq (.cond (.t 8) .skip (.exit 0)) aov
def O0:J:=U [bP 8 .lss 3 7 6] [0,5,6,7,8] aow
def aox:J:=.block 0 (.loop O0)
def aoy:J:=U [ad 53 0,bX 54 36 53,a_ 55 .leq 3 54 6,aJ 2 55] [2] .ret
def aoz:J:=.seq (U [ad 5 0,bX 6 36 5,lu 7 0] [0,5,6,7] aox) aoy
def aoA:J:=U [bx 2 false] [0] aoz
theorem aoB:bn ⟨56,[0]⟩ (Tryz.f160.body.getD .skip)=some aoA.strip:=by kernel_rfl
def aoC:J:=U [bx 2 false] [2] .ret
def aoD:J:=.cond (.t 27) aoC .skip
def aoE:J:=U [ad 12 4,dQ 13 213 12,eH 14 13,ad 15 14,bo 16 15 (.ct (.t 3)),bo 17 15 (.ck .gtr 3 (.t 16) (.c (.int .i64 0))),bo 18 15 (.ct (.t 17)),bw 19 18 (.ct (.t 4)),bw 20 18 (.ct (.t 0)),bw 21 18 (.ct (.t 3)),bw 22 18 (.ck .sub 3 (.t 21) (.c (.int .i64 1))),bw 23 18 (.fc 25 (.t 20) (.t 22)),bw 24 18 (.ld 9 (.t 23)),bw 25 18 (.ck .leq 9 (.t 19) (.t 24)),bo 26 15 (.pick (.t 18) (.t 25) (.c (.bool false))),ro 27 (.pick (.t 15) (.c (.bool true)) (.t 26))] [0,5,6,7,27] aoD
def aoF:J:=.ca [a_ 28 .add 3 7 1,ad 7 28] (some [0,5,6,7])
def aoG:J:=.seq (.block 1 (U [ad 9 7,cn 10 25 5 7,aP 11 9 10,aJ 3 9,aJ 4 11] [0,3,4,5,6,7] aoE)) aoF
def aoH:J:=.seq (.cond (.t 8) .skip (.exit 0)) aoG
def O1:J:=U [bP 8 .lss 3 7 6] [0,5,6,7,8] aoH
def aoI:J:=.block 0 (.loop O1)
def aoJ:J:=U [ad 29 0,bX 30 25 29,a_ 31 .leq 3 30 12,aJ 2 31] [2] .ret
def aoK:J:=.seq (U [ad 5 0,bX 6 25 5,lu 7 0] [0,5,6,7] aoI) aoJ
def aoL:J:=U [bx 2 false] [0] aoK
theorem aoM:bn ⟨32,[0]⟩ (Tryz.f161.body.getD .skip)=some aoL.strip:=by kernel_rfl
def aoN:J:=U [a7 2 1] [2] .ret
def aoO:J:=U [a7 2 2] [2] .ret
def aoP:J:=U [a7 2 3] [2] .ret
def aoQ:J:=U [a7 2 4] [2] .ret
def aoR:J:=U [a7 2 5] [2] .ret
def aoS:J:=.cond (.t 30) aoR .skip
def aoT:J:=U [a1 31 38 1 4,aP 32 25 31,dQ 33 161 32,eH 34 33,aJ 30 34] [30] aoS
def aoU:J:=.cond (.t 25) aoQ aoT
def aoV:J:=U [a1 26 38 1 3,aP 27 25 26,dQ 28 161 27,eH 29 28,aJ 25 29] [1,25] aoU
def aoW:J:=.cond (.t 20) aoP aoV
def aoX:J:=U [a1 21 38 1 2,aP 22 36 21,dQ 23 160 22,eH 24 23,aJ 20 24] [1,20] aoW
def aoY:J:=.cond (.t 8) aoO aoX
def aoZ:J:=U [a1 9 38 1 1,aP 10 35 9,bX 11 35 10,ro 12 (.call (.f 106) [(.t 11),(.c (.int .i64 1)),(.c (.int .i64 3))]),eH 13 12,ad 14 13,bo 15 14 (.c1 38 (.t 1) 1),bo 16 14 (.ld 35 (.t 15)),⟨some 17,.iz 158 [(.t 1)],some (14,false)⟩,⟨some 18,.call (.f 157) [(.t 16),(.t 17)],some (14,false)⟩,ro 19 (.pick (.t 14) (.c (.bool true)) (.t 18)),aJ 8 19] [1,8] aoY
def ao0:J:=.cond (.t 3) aoN aoZ
def ao1:J:=U [a7 2 0] [2] .ret
def ao2:J:=.seq (.block 0 (U [a1 4 38 1 0,aP 5 34 4,dQ 6 156 5,eH 7 6,aJ 3 7] [1,3] ao0)) ao1
def ao3:J:=U [ro 1 (.da 38 (.t 0)),a7 2 0] [1] ao2
theorem ao4:bn ⟨35,[0]⟩ (Tryz.f105.body.getD .skip)=some ao3.strip:=by kernel_rfl
def ao5:J:=U [aP 3 38 1,dQ 4 105 3,a_ 5 .eql 2 4 0,aJ 2 5] [2] .ret
def ao6:J:=U [ro 1 (.da 38 (.t 0)),bx 2 false] [1] ao5
theorem ao7:bn ⟨6,[0]⟩ (Tryz.f63.body.getD .skip)=some ao6.strip:=by kernel_rfl
def ao8:J:=U [bx 4 false] [4] .ret
def ao9:J:=.cond (.t 24) ao8 .skip
def ao_:J:=hW [a1 30 121 5 2,aP 31 119 30,a1 32 82 3 1,aP 33 2 32,cn 34 119 31 33,a1 35 178 34 0,aP 36 2 35,a_ 37 .neq 2 36 5,ad 38 37,bw 39 38 (.c1 82 (.t 3) 2),bw 40 38 (.ld 46 (.t 39)),bw 41 38 (.len 46 (.t 40)),bw 42 38 (.ld 121 (.t 5)),⟨some 43,.call (.f 141) [(.t 42)],some (38,true)⟩,bw 44 38 (.c1 82 (.t 3) 1),bw 45 38 (.ld 2 (.t 44)),bw 46 38 (.fc 184 (.t 43) (.t 45)),bw 47 38 (.c1 183 (.t 46) 0),bw 48 38 (.ld 2 (.t 47)),bw 49 38 (.ck .eql 2 (.t 41) (.t 48)),ro 50 (.pick (.t 38) (.t 49) (.c (.bool false))),ad 51 50,bw 52 51 (.c1 82 (.t 3) 2),bw 53 51 (.ld 46 (.t 52)),⟨some 54,.call (.f 142) [(.t 53)],some (51,true)⟩,ro 55 (.pick (.t 51) (.t 54) (.c (.bool false))),aJ 4 55] [[],[0],[],[2],[1,3],[4],[5],[6],[7],[8],[9,8],[10,8],[8],[12,8,8],[8],[14,8],[13,15,8],[16,8],[17,8],[11,18,8],[8,19],[20,13],[21],[22,21],[23,21,21],[21,24],[25,24,0,1,2,3,4,5,6,7,8,9,10,11,12,13,14,15,16,17,18,19,20,21,22,23,24,25]] [4] .ret
def apa:J:=U [ad 25 0,a1 26 82 3 0,aP 27 2 26,cn 28 34 25 27,aP 29 121 28,iF 5 121,dW 121 5 29] [3,5] ao_
def apb:J:=.seq (hW [a1 6 82 3 0,aP 7 2 6,ad 8 0,bX 9 34 8,dD 10 64 7 9,eH 11 10,ad 12 11,bo 13 12 (.c1 82 (.t 3) 1),bo 14 12 (.ld 2 (.t 13)),bo 15 12 (.ct (.t 0)),bo 16 12 (.c1 82 (.t 3) 0),bo 17 12 (.ld 2 (.t 16)),bo 18 12 (.fc 34 (.t 15) (.t 17)),bo 19 12 (.c1 121 (.t 18) 2),bo 20 12 (.ld 119 (.t 19)),bo 21 12 (.len 119 (.t 20)),⟨some 22,.call (.f 64) [(.t 14),(.t 21)],some (12,false)⟩,bo 23 12 (.un .not (.t 22)),ro 24 (.pick (.t 12) (.c (.bool true)) (.t 23))] [[],[0],[],[2],[1,3],[4],[5,4],[6],[7,6],[6],[6],[10,6],[9,11,6],[12,6],[13,6],[14,6],[8,15,6,6],[16,6],[6,17]] [0,3,24] ao9) apa
def apc:J:=U [ro 3 (.da 82 (.t 1)),bx 4 false] [0,3] apb
theorem apd:bn ⟨56,[0,1]⟩ (Tryz.f88.body.getD .skip)=some apc.strip:=by kernel_rfl
def ape:J:=U [a1 4 38 1 0,aP 5 34 4,aP 6 82 2,dD 7 88 5 6,eH 8 7,aJ 3 8] [3] .ret
def apf:J:=U [ro 2 (.da 82 (.t 0)),bx 3 false] [1,2] ape
theorem apg:bn ⟨9,[0,1]⟩ (Tryz.f87.body.getD .skip)=some apf.strip:=by kernel_rfl
def aph:J:=U [ad 17 5,aJ 4 17] [4] .ret
def api:J:=.cond (.t 16) aph .skip
def apj:J:=U [ad 11 1,ad 12 0,ad 13 5,cn 14 31 12 13,aP 15 82 14,ro 16 (.call (.t 11) [(.t 15)])] [0,1,5,7,8,16] api
def apk:J:=.ca [a_ 18 .add 3 8 1,ad 8 18] (some [0,1,7,8])
def apl:J:=.seq (.block 1 (U [ad 10 8,aJ 5 10] [0,1,5,7,8] apj)) apk
def apm:J:=.seq (.cond (.t 9) .skip (.exit 0)) apl
def O2:J:=U [bP 9 .lss 3 8 7] [0,1,7,8,9] apm
def apn:J:=.block 0 (.loop O2)
def apo:J:=U [a7 4 (-1)] [4] .ret
def apq:J:=.seq (U [ad 6 0,bX 7 31 6,lu 8 0] [0,1,7,8] apn) apo
def apr:J:=U [a7 4 0] [0,1] apq
theorem aps:bn ⟨19,[0,1]⟩ (Tryz.f140.body.getD .skip)=some apr.strip:=by kernel_rfl
def apt:J:=U [ad 5 0,ad 6 1,dD 7 140 5 6,a_ 8 .geq 3 7 0,aJ 4 8] [4] .ret
def apu:J:=U [bx 4 false] [0,1] apt
theorem apv:bn ⟨9,[0,1]⟩ (Tryz.f86.body.getD .skip)=some apu.strip:=by kernel_rfl
def apw:J:=U [aP 5 38 2,dQ 6 63 5,ad 7 6,bw 8 7 (.ct (.t 1)),bw 9 7 (.len 31 (.t 8)),bw 10 7 (.c1 38 (.t 2) 1),bw 11 7 (.ld 35 (.t 10)),bw 12 7 (.len 35 (.t 11)),bw 13 7 (.ck .eql 3 (.t 9) (.t 12)),ro 14 (.pick (.t 7) (.t 13) (.c (.bool false))),ad 15 14,bw 16 15 (.ct (.t 1)),⟨some 17,.iz 87 [(.t 2)],some (15,true)⟩,⟨some 18,.call (.f 86) [(.t 16),(.t 17)],some (15,true)⟩,bw 19 15 (.un .not (.t 18)),ro 20 (.pick (.t 15) (.t 19) (.c (.bool false))),aJ 4 20] [4] .ret
def apx:J:=U [ro 2 (.da 38 (.t 0)),bx 4 false] [1,2] apw
theorem apy:bn ⟨21,[0,1]⟩ (Tryz.f49.body.getD .skip)=some apx.strip:=by kernel_rfl
def apz:J:=U [j_ 2] [2] .ret
def apA:J:=.cond (.t 4) apz .skip
def apB:J:=U [ro 5 (.dG 46 0 []),ad 6 0,yE 7 46 46 5 6,aJ 2 7] [2] .ret
def apC:J:=.seq (U [ad 3 0,ro 4 (.ck .eql 46 (.t 3) (.c .bk))] [0,4] apA) apB
def apD:J:=U [j_ 2] [0] apC
theorem apE:bn ⟨8,[0]⟩ (Tryz.f167.body.getD .skip)=some apD.strip:=by kernel_rfl
def apF:J:=U [aP 7 82 1,dW 82 2 7] [2] .ret
def apG:J:=U [a1 3 82 1 2,aP 4 46 3,dQ 5 167 4,a1 6 82 1 2,dW 46 6 5] [1,2] apF
def apH:J:=U [ro 1 (.da 82 (.t 0)),iF 2 82] [1,2] apG
theorem apI:bn ⟨8,[0]⟩ (Tryz.f121.body.getD .skip)=some apH.strip:=by kernel_rfl
def apJ:J:=.ca [ad 12 3,aP 13 82 5,dQ 14 121 13,BX 15 31 14,yE 16 31 31 12 15,aJ 3 16] (some [3,6,7,8])
def apK:J:=.ca [a_ 17 .add 3 8 1,ad 8 17] (some [3,6,7,8])
def apL:J:=.seq (.block 1 (U [cn 10 31 6 8,aP 11 82 10,iF 5 82,dW 82 5 11] [3,5,6,7,8] apJ)) apK
def apM:J:=.seq (.cond (.t 9) .skip (.exit 0)) apL
def O3:J:=U [bP 9 .lss 3 8 7] [3,6,7,8,9] apM
def apN:J:=.block 0 (.loop O3)
def apO:J:=U [ad 18 3,aJ 2 18] [2] .ret
def apP:J:=.seq (U [ad 6 0,bX 7 31 6,lu 8 0] [3,6,7,8] apN) apO
def apQ:J:=U [j_ 3] [0,3] apP
def apR:J:=U [j_ 2] [0] apQ
theorem apS:bn ⟨19,[0]⟩ (Tryz.f89.body.getD .skip)=some apR.strip:=by kernel_rfl
def apT:J:=U [ad 3 0,ad 4 0,bP 5 .neq 2 3 4,aJ 2 5] [2] .ret
def apU:J:=U [bx 2 false] [0] apT
theorem apV:bn ⟨6,[0]⟩ (Tryz.f202.body.getD .skip)=some apU.strip:=by kernel_rfl
def apW:J:=U [a7 4 0] [4] .ret
def apX:J:=.cond (.t 12) apW .skip
def apY:J:=U [a7 4 (-1)] [4] .ret
def apZ:J:=.seq (U [ad 12 6] [12] apX) apY
def ap0:J:=.cond (.t 11) apZ .skip
def ap1:J:=U [a7 4 1] [4] .ret
def ap2:J:=.cond (.t 13) ap1 .skip
def ap3:J:=U [a7 4 (-1)] [4] .ret
def ap4:J:=.cond (.t 16) ap3 .skip
def ap5:J:=U [a7 4 1] [4] .ret
def ap6:J:=.cond (.t 19) ap5 .skip
def ap7:J:=U [a7 4 0] [4] .ret
def ap8:J:=.seq (U [ad 17 0,ad 18 1,bP 19 .gtr 2 17 18] [19] ap6) ap7
def ap9:J:=.seq (U [ad 14 0,ad 15 1,bP 16 .lss 2 14 15] [0,1,16] ap4) ap8
def ap_:J:=.seq (U [ad 13 6] [0,1,13] ap2) ap9
def aqa:J:=.seq (U [ad 11 5] [0,1,6,11] ap0) ap_
def aqb:J:=U [ad 9 1,dQ 10 202 9,aJ 6 10] [0,1,5,6] aqa
def aqc:J:=U [ad 7 0,dQ 8 202 7,aJ 5 8] [0,1,5] aqb
def aqd:J:=U [a7 4 0] [0,1] aqc
theorem aqe:bn ⟨20,[0,1]⟩ (Tryz.f146.body.getD .skip)=some aqd.strip:=by kernel_rfl
def aqf:J:=U [a7 4 1] [4] .ret
def aqg:J:=.cond (.t 19) aqf .skip
def aqh:J:=U [ad 29 8,aJ 4 29] [4] .ret
def aqi:J:=.cond (.t 28) aqh .skip
def aqj:J:=U [ad 27 8,a_ 28 .neq 3 27 0] [0,1,8,9,10,11,28] aqi
def aqk:J:=U [ad 24 6,ad 25 7,dD 26 146 24 25,aJ 8 26] [0,1,8,9,10,11] aqj
def aql:J:=U [ad 20 1,ad 21 5,cn 22 46 20 21,aP 23 2 22,aJ 7 23] [0,1,6,7,9,10,11] aqk
def aqm:J:=.seq (U [ad 16 5,ad 17 1,bX 18 46 17,bP 19 .geq 3 16 18] [0,1,5,6,9,10,11,19] aqg) aql
def aqn:J:=.ca [a_ 30 .add 3 11 1,ad 11 30] (some [0,1,9,10,11])
def aqo:J:=.seq (.block 1 (U [ad 13 11,cn 14 46 9 11,aP 15 2 14,aJ 5 13,aJ 6 15] [0,1,5,6,9,10,11] aqm)) aqn
def aqp:J:=.seq (.cond (.t 12) .skip (.exit 0)) aqo
def O4:J:=U [bP 12 .lss 3 11 10] [0,1,9,10,11,12] aqp
def aqq:J:=.block 0 (.loop O4)
def aqr:J:=U [a7 4 (-1)] [4] .ret
def aqs:J:=.cond (.t 35) aqr .skip
def aqt:J:=U [a7 4 0] [4] .ret
def aqu:J:=.seq (U [ad 31 0,bX 32 46 31,ad 33 1,bX 34 46 33,bP 35 .lss 3 32 34] [35] aqs) aqt
def aqv:J:=.seq (U [ad 9 0,bX 10 46 9,lu 11 0] [0,1,9,10,11] aqq) aqu
def aqw:J:=U [a7 4 0] [0,1] aqv
theorem aqx:bn ⟨36,[0,1]⟩ (Tryz.f147.body.getD .skip)=some aqw.strip:=by kernel_rfl
def aqy:J:=U [ad 15 5,aJ 2 15] [2] .ret
def aqz:J:=.cond (.t 14) aqy .skip
def aqA:J:=U [ad 12 5,ad 13 3,bP 14 .neq 3 12 13] [3,5,6,7,8,14] aqz
def aqB:J:=.ca [a_ 16 .add 3 8 1,ad 8 16] (some [3,6,7,8])
def aqC:J:=.seq (.block 1 (U [cn 10 239 6 8,aP 11 3 10,aJ 5 11] [3,5,6,7,8] aqA)) aqB
def aqD:J:=.seq (.cond (.t 9) .skip (.exit 0)) aqC
def O5:J:=U [bP 9 .lss 3 8 7] [3,6,7,8,9] aqD
def aqE:J:=.block 0 (.loop O5)
def aqF:J:=U [ad 17 3,aJ 2 17] [2] .ret
def aqG:J:=.seq (U [ad 6 0,bX 7 239 6,lu 8 0] [3,6,7,8] aqE) aqF
def aqH:J:=U [a7 3 0] [0,3] aqG
def aqI:J:=U [a7 2 0] [0] aqH
theorem aqJ:bn ⟨18,[0]⟩ (Tryz.f145.body.getD .skip)=some aqI.strip:=by kernel_rfl
def aqK:J:=hW [a1 5 82 2 0,aP 6 2 5,a1 7 82 3 0,aP 8 2 7,dD 9 146 6 8,a1 10 82 2 1,aP 11 2 10,a1 12 82 3 1,aP 13 2 12,dD 14 146 11 13,a1 15 82 2 2,aP 16 46 15,a1 17 82 3 2,aP 18 46 17,dD 19 147 16 18,ro 20 (.dG 239 3 [(0,(.t 9)),(1,(.t 14)),(2,(.t 19))]),dQ 21 145 20,aJ 4 21] [[],[0],[],[2],[1,3],[],[5],[],[7],[6,8,4],[],[10],[],[12],[11,13,9],[4,9,14],[15,14],[16,16,0,1,2,3,4,5,6,7,8,9,10,11,12,13,14,15,16]] [4] .ret
def aqL:J:=U [ro 2 (.da 82 (.t 0)),ro 3 (.da 82 (.t 1)),a7 4 0] [2,3] aqK
theorem aqM:bn ⟨22,[0,1]⟩ (Tryz.f91.body.getD .skip)=some aqL.strip:=by kernel_rfl
def aqN:J:=U [ad 8 3,aJ 2 8] [2] .ret
def aqO:J:=U [ad 6 3,ro 7 (.call (.f 90) [(.t 6),(.f 91)])] [3] aqN
def aqP:J:=U [ad 4 0,dQ 5 89 4,aJ 3 5] [3] aqO
def aqQ:J:=U [j_ 2] [0] aqP
theorem aqR:bn ⟨9,[0]⟩ (Tryz.f50.body.getD .skip)=some aqQ.strip:=by kernel_rfl
def aqS:J:=U [j_ 4,a7 5 1] [4,5] .ret
def aqT:J:=.cond (.t 9) aqS .skip
def aqU:J:=U [ad 10 1,dQ 11 50 10,aJ 4 11,a7 5 0] [4,5] .ret
def aqV:J:=.seq (U [aP 6 38 2,ad 7 1,dD 8 49 6 7,eH 9 8] [1,9] aqT) aqU
def aqW:J:=U [ro 2 (.da 38 (.t 0)),j_ 4,a7 5 0] [1,2] aqV
theorem wU:bn ⟨12,[0,1]⟩ (Tryz.f13.body.getD .skip)=some aqW.strip:=by kernel_rfl
def aqX:J:=U [bx 4 false] [4] .ret
def aqY:J:=.cond (.t 10) aqX .skip
def aqZ:J:=.cond (.t 14) .skip (.exit 0)
def aq0:J:=U [bx 4 false] [4] .ret
def aq1:J:=.cond (.t 25) aq0 .skip
def aq2:J:=.ca [ad 15 5,a_ 16 .add 3 15 1,aJ 5 16] (some [0,1,5])
def aq3:J:=.seq (.block 1 (hW [ad 17 0,ad 18 5,cn 19 46 17 18,aP 20 2 19,ad 21 1,ad 22 5,cn 23 46 21 22,aP 24 2 23,bP 25 .neq 2 20 24] [[],[],[0,1],[2],[],[],[4,5],[6],[3,7]] [0,1,5,25] aq1)) aq2
def O6:J:=.seq (U [ad 11 5,ad 12 0,bX 13 46 12,bP 14 .lss 3 11 13] [0,1,5,14] aqZ) aq3
def aq4:J:=.block 0 (.loop O6)
def aq5:J:=U [bx 4 true] [4] .ret
def aq6:J:=.seq (U [a7 5 0] [0,1,5] aq4) aq5
def aq7:J:=.seq (U [ad 6 0,bX 7 46 6,ad 8 1,bX 9 46 8,bP 10 .neq 3 7 9] [0,1,10] aqY) aq6
def aq8:J:=U [bx 4 false] [0,1] aq7
theorem aq9:bn ⟨26,[0,1]⟩ (Tryz.f27.body.getD .skip)=some aq8.strip:=by kernel_rfl
def aq_:J:=U [bx 4 false] [4] .ret
def ara:J:=.cond (.t 9) aq_ .skip
def arb:J:=U [bx 4 false] [4] .ret
def arc:J:=.cond (.t 14) arb .skip
def ard:J:=U [bx 4 false] [4] .ret
def arf:J:=.cond (.t 20) ard .skip
def arh:J:=U [bx 4 true] [4] .ret
def ari:J:=.seq (U [a1 15 82 2 2,aP 16 46 15,a1 17 82 3 2,aP 18 46 17,dD 19 27 16 18,eH 20 19] [20] arf) arh
def arj:J:=.seq (U [a1 10 82 2 1,aP 11 2 10,a1 12 82 3 1,aP 13 2 12,bP 14 .neq 2 11 13] [2,3,14] arc) ari
def ark:J:=.seq (U [a1 5 82 2 0,aP 6 2 5,a1 7 82 3 0,aP 8 2 7,bP 9 .neq 2 6 8] [2,3,9] ara) arj
def arl:J:=U [ro 2 (.da 82 (.t 0)),ro 3 (.da 82 (.t 1)),bx 4 false] [2,3] ark
theorem arn:bn ⟨21,[0,1]⟩ (Tryz.f51.body.getD .skip)=some arl.strip:=by kernel_rfl
def aro:J:=U [bx 4 false] [4] .ret
def arp:J:=.cond (.t 10) aro .skip
def arq:J:=.cond (.t 14) .skip (.exit 0)
def ars:J:=U [bx 4 false] [4] .ret
def art:J:=.cond (.t 26) ars .skip
def aru:J:=.ca [ad 15 5,a_ 16 .add 3 15 1,aJ 5 16] (some [0,1,5])
def arv:J:=.seq (.block 1 (hW [ad 17 0,ad 18 5,cn 19 31 17 18,aP 20 82 19,ad 21 1,ad 22 5,cn 23 31 21 22,aP 24 82 23,dD 25 51 20 24,eH 26 25] [[],[],[0,1],[2],[],[],[4,5],[6],[3,7],[8]] [0,1,5,26] art)) aru
def O7:J:=.seq (U [ad 11 5,ad 12 0,bX 13 31 12,bP 14 .lss 3 11 13] [0,1,5,14] arq) arv
def arw:J:=.block 0 (.loop O7)
def arx:J:=U [bx 4 true] [4] .ret
def ary:J:=.seq (U [a7 5 0] [0,1,5] arw) arx
def arz:J:=.seq (U [ad 6 0,bX 7 31 6,ad 8 1,bX 9 31 8,bP 10 .neq 3 7 9] [0,1,10] arp) ary
def arA:J:=U [bx 4 false] [0,1] arz
theorem oP:bn ⟨27,[0,1]⟩ (Tryz.f14.body.getD .skip)=some arA.strip:=by kernel_rfl
def arB:J:=U [bx 4 false] [4] .ret
def arC:J:=.cond (.t 9) arB .skip
def arD:J:=U [bx 4 false] [4] .ret
def arE:J:=.cond (.t 14) arD .skip
def arF:J:=U [bx 4 true] [4] .ret
def arG:J:=.seq (U [a1 10 196 2 1,aP 11 2 10,a1 12 196 3 1,aP 13 2 12,bP 14 .neq 2 11 13] [14] arE) arF
def arH:J:=.seq (U [a1 5 196 2 0,aP 6 2 5,a1 7 196 3 0,aP 8 2 7,bP 9 .neq 2 6 8] [2,3,9] arC) arG
def arI:J:=U [ro 2 (.da 196 (.t 0)),ro 3 (.da 196 (.t 1)),bx 4 false] [2,3] arH
theorem arJ:bn ⟨15,[0,1]⟩ (Tryz.f227.body.getD .skip)=some arI.strip:=by kernel_rfl
def arK:J:=U [bx 4 false] [4] .ret
def arL:J:=.cond (.t 10) arK .skip
def arM:J:=.cond (.t 14) .skip (.exit 0)
def arN:J:=U [bx 4 false] [4] .ret
def arO:J:=.cond (.t 26) arN .skip
def arP:J:=.ca [ad 15 5,a_ 16 .add 3 15 1,aJ 5 16] (some [0,1,5])
def arQ:J:=.seq (.block 1 (hW [ad 17 0,ad 18 5,cn 19 145 17 18,aP 20 196 19,ad 21 1,ad 22 5,cn 23 145 21 22,aP 24 196 23,dD 25 227 20 24,eH 26 25] [[],[],[0,1],[2],[],[],[4,5],[6],[3,7],[8]] [0,1,5,26] arO)) arP
def O8:J:=.seq (U [ad 11 5,ad 12 0,bX 13 145 12,bP 14 .lss 3 11 13] [0,1,5,14] arM) arQ
def arR:J:=.block 0 (.loop O8)
def arS:J:=U [bx 4 true] [4] .ret
def arT:J:=.seq (U [a7 5 0] [0,1,5] arR) arS
def arU:J:=.seq (U [ad 6 0,bX 7 145 6,ad 8 1,bX 9 145 8,bP 10 .neq 3 7 9] [0,1,10] arL) arT
def arV:J:=U [bx 4 false] [0,1] arU
theorem arW:bn ⟨27,[0,1]⟩ (Tryz.f172.body.getD .skip)=some arV.strip:=by kernel_rfl
def arX:J:=U [bx 4 false] [4] .ret
def arY:J:=.cond (.t 10) arX .skip
def arZ:J:=.cond (.t 14) .skip (.exit 0)
def ar0:J:=U [bx 4 false] [4] .ret
def ar1:J:=.cond (.t 26) ar0 .skip
def ar2:J:=.ca [ad 15 5,a_ 16 .add 3 15 1,aJ 5 16] (some [0,1,5])
def ar3:J:=.seq (.block 1 (hW [ad 17 0,ad 18 5,cn 19 146 17 18,aP 20 145 19,ad 21 1,ad 22 5,cn 23 146 21 22,aP 24 145 23,dD 25 172 20 24,eH 26 25] [[],[],[0,1],[2],[],[],[4,5],[6],[3,7],[8]] [0,1,5,26] ar1)) ar2
def O9:J:=.seq (U [ad 11 5,ad 12 0,bX 13 146 12,bP 14 .lss 3 11 13] [0,1,5,14] arZ) ar3
def ar4:J:=.block 0 (.loop O9)
def ar5:J:=U [bx 4 true] [4] .ret
def ar6:J:=.seq (U [a7 5 0] [0,1,5] ar4) ar5
def ar7:J:=.seq (U [ad 6 0,bX 7 146 6,ad 8 1,bX 9 146 8,bP 10 .neq 3 7 9] [0,1,10] arY) ar6
def ar8:J:=U [bx 4 false] [0,1] ar7
theorem ar9:bn ⟨27,[0,1]⟩ (Tryz.f173.body.getD .skip)=some ar8.strip:=by kernel_rfl
def ar_:J:=U [bx 4 false] [4] .ret
def asa:J:=.cond (.t 9) ar_ .skip
def asb:J:=U [bx 4 false] [4] .ret
def asc:J:=.cond (.t 14) asb .skip
def asd:J:=U [bx 4 false] [4] .ret
def ase:J:=.cond (.t 19) asd .skip
def asf:J:=U [bx 4 false] [4] .ret
def asg:J:=.cond (.t 25) asf .skip
def ash:J:=U [bx 4 true] [4] .ret
def asi:J:=.seq (U [a1 20 178 2 3,aP 21 146 20,a1 22 178 3 3,aP 23 146 22,dD 24 173 21 23,eH 25 24] [25] asg) ash
def asj:J:=.seq (U [a1 15 178 2 2,aP 16 9 15,a1 17 178 3 2,aP 18 9 17,bP 19 .neq 9 16 18] [2,3,19] ase) asi
def asl:J:=.seq (U [a1 10 178 2 1,aP 11 2 10,a1 12 178 3 1,aP 13 2 12,bP 14 .neq 2 11 13] [2,3,14] asc) asj
def asm:J:=.seq (U [a1 5 178 2 0,aP 6 2 5,a1 7 178 3 0,aP 8 2 7,bP 9 .neq 2 6 8] [2,3,9] asa) asl
def asn:J:=U [ro 2 (.da 178 (.t 0)),ro 3 (.da 178 (.t 1)),bx 4 false] [2,3] asm
theorem aso:bn ⟨26,[0,1]⟩ (Tryz.f203.body.getD .skip)=some asn.strip:=by kernel_rfl
def asp:J:=U [bx 4 false] [4] .ret
def asq:J:=.cond (.t 10) asp .skip
def asr:J:=.cond (.t 14) .skip (.exit 0)
def ass:J:=U [bx 4 false] [4] .ret
def ast:J:=.cond (.t 26) ass .skip
def asu:J:=.ca [ad 15 5,a_ 16 .add 3 15 1,aJ 5 16] (some [0,1,5])
def asv:J:=.seq (.block 1 (hW [ad 17 0,ad 18 5,cn 19 119 17 18,aP 20 178 19,ad 21 1,ad 22 5,cn 23 119 21 22,aP 24 178 23,dD 25 203 20 24,eH 26 25] [[],[],[0,1],[2],[],[],[4,5],[6],[3,7],[8]] [0,1,5,26] ast)) asu
def O_:J:=.seq (U [ad 11 5,ad 12 0,bX 13 119 12,bP 14 .lss 3 11 13] [0,1,5,14] asr) asv
def asw:J:=.block 0 (.loop O_)
def asx:J:=U [bx 4 true] [4] .ret
def asy:J:=.seq (U [a7 5 0] [0,1,5] asw) asx
def asz:J:=.seq (U [ad 6 0,bX 7 119 6,ad 8 1,bX 9 119 8,bP 10 .neq 3 7 9] [0,1,10] asq) asy
def asA:J:=U [bx 4 false] [0,1] asz
theorem asB:bn ⟨27,[0,1]⟩ (Tryz.f148.body.getD .skip)=some asA.strip:=by kernel_rfl
def asC:J:=U [bx 4 false] [4] .ret
def asD:J:=.cond (.t 9) asC .skip
def asE:J:=U [bx 4 false] [4] .ret
def asF:J:=.cond (.t 14) asE .skip
def asG:J:=U [bx 4 false] [4] .ret
def asH:J:=.cond (.t 20) asG .skip
def asI:J:=U [bx 4 true] [4] .ret
def asJ:J:=.seq (U [a1 15 121 2 2,aP 16 119 15,a1 17 121 3 2,aP 18 119 17,dD 19 148 16 18,eH 20 19] [20] asH) asI
def asK:J:=.seq (U [a1 10 121 2 1,aP 11 2 10,a1 12 121 3 1,aP 13 2 12,bP 14 .neq 2 11 13] [2,3,14] asF) asJ
def asL:J:=.seq (U [a1 5 121 2 0,aP 6 9 5,a1 7 121 3 0,aP 8 9 7,bP 9 .neq 9 6 8] [2,3,9] asD) asK
def asM:J:=U [ro 2 (.da 121 (.t 0)),ro 3 (.da 121 (.t 1)),bx 4 false] [2,3] asL
theorem asN:bn ⟨21,[0,1]⟩ (Tryz.f92.body.getD .skip)=some asM.strip:=by kernel_rfl
def asO:J:=U [bx 4 false] [4] .ret
def asP:J:=.cond (.t 10) asO .skip
def asQ:J:=.cond (.t 14) .skip (.exit 0)
def asR:J:=U [bx 4 false] [4] .ret
def asS:J:=.cond (.t 26) asR .skip
def asT:J:=.ca [ad 15 5,a_ 16 .add 3 15 1,aJ 5 16] (some [0,1,5])
def asU:J:=.seq (.block 1 (hW [ad 17 0,ad 18 5,cn 19 34 17 18,aP 20 121 19,ad 21 1,ad 22 5,cn 23 34 21 22,aP 24 121 23,dD 25 92 20 24,eH 26 25] [[],[],[0,1],[2],[],[],[4,5],[6],[3,7],[8]] [0,1,5,26] asS)) asT
def Pa:J:=.seq (U [ad 11 5,ad 12 0,bX 13 34 12,bP 14 .lss 3 11 13] [0,1,5,14] asQ) asU
def asV:J:=.block 0 (.loop Pa)
def asW:J:=U [bx 4 true] [4] .ret
def asX:J:=.seq (U [a7 5 0] [0,1,5] asV) asW
def asY:J:=.seq (U [ad 6 0,bX 7 34 6,ad 8 1,bX 9 34 8,bP 10 .neq 3 7 9] [0,1,10] asP) asX
def asZ:J:=U [bx 4 false] [0,1] asY
theorem Aa:bn ⟨27,[0,1]⟩ (Tryz.f52.body.getD .skip)=some asZ.strip:=by kernel_rfl
def as0:J:=U [bx 4 false] [4] .ret
def as1:J:=.cond (.t 9) as0 .skip
def as2:J:=U [bx 4 false] [4] .ret
def as3:J:=.cond (.t 15) as2 .skip
def as4:J:=U [bx 4 true] [4] .ret
def as5:J:=.seq (U [a1 10 100 2 1,aP 11 46 10,a1 12 100 3 1,aP 13 46 12,dD 14 27 11 13,eH 15 14] [15] as3) as4
def as6:J:=.seq (U [a1 5 100 2 0,aP 6 2 5,a1 7 100 3 0,aP 8 2 7,bP 9 .neq 2 6 8] [2,3,9] as1) as5
def as7:J:=U [ro 2 (.da 100 (.t 0)),ro 3 (.da 100 (.t 1)),bx 4 false] [2,3] as6
theorem as8:bn ⟨16,[0,1]⟩ (Tryz.f93.body.getD .skip)=some as7.strip:=by kernel_rfl
def as9:J:=U [bx 4 false] [4] .ret
def as_:J:=.cond (.t 10) as9 .skip
def ata:J:=.cond (.t 14) .skip (.exit 0)
def atb:J:=U [bx 4 false] [4] .ret
def atc:J:=.cond (.t 26) atb .skip
def atd:J:=.ca [ad 15 5,a_ 16 .add 3 15 1,aJ 5 16] (some [0,1,5])
def ate:J:=.seq (.block 1 (hW [ad 17 0,ad 18 5,cn 19 35 17 18,aP 20 100 19,ad 21 1,ad 22 5,cn 23 35 21 22,aP 24 100 23,dD 25 93 20 24,eH 26 25] [[],[],[0,1],[2],[],[],[4,5],[6],[3,7],[8]] [0,1,5,26] atc)) atd
def Pb:J:=.seq (U [ad 11 5,ad 12 0,bX 13 35 12,bP 14 .lss 3 11 13] [0,1,5,14] ata) ate
def atf:J:=.block 0 (.loop Pb)
def atg:J:=U [bx 4 true] [4] .ret
def ath:J:=.seq (U [a7 5 0] [0,1,5] atf) atg
def ati:J:=.seq (U [ad 6 0,bX 7 35 6,ad 8 1,bX 9 35 8,bP 10 .neq 3 7 9] [0,1,10] as_) ath
def atj:J:=U [bx 4 false] [0,1] ati
theorem mP:bn ⟨27,[0,1]⟩ (Tryz.f53.body.getD .skip)=some atj.strip:=by kernel_rfl
def atk:J:=U [bx 4 false] [4] .ret
def atl:J:=.cond (.t 9) atk .skip
def atm:J:=U [bx 4 false] [4] .ret
def atn:J:=.cond (.t 14) atm .skip
def ato:J:=U [bx 4 false] [4] .ret
def atp:J:=.cond (.t 19) ato .skip
def atq:J:=U [bx 4 true] [4] .ret
def atr:J:=.seq (U [a1 15 124 2 2,aP 16 9 15,a1 17 124 3 2,aP 18 9 17,bP 19 .neq 9 16 18] [19] atp) atq
def ats:J:=.seq (U [a1 10 124 2 1,aP 11 9 10,a1 12 124 3 1,aP 13 9 12,bP 14 .neq 9 11 13] [2,3,14] atn) atr
def att:J:=.seq (U [a1 5 124 2 0,aP 6 9 5,a1 7 124 3 0,aP 8 9 7,bP 9 .neq 9 6 8] [2,3,9] atl) ats
def atu:J:=U [ro 2 (.da 124 (.t 0)),ro 3 (.da 124 (.t 1)),bx 4 false] [2,3] att
theorem atv:bn ⟨20,[0,1]⟩ (Tryz.f94.body.getD .skip)=some atu.strip:=by kernel_rfl
def atw:J:=U [bx 4 false] [4] .ret
def atx:J:=.cond (.t 10) atw .skip
def aty:J:=.cond (.t 14) .skip (.exit 0)
def atz:J:=U [bx 4 false] [4] .ret
def atA:J:=.cond (.t 26) atz .skip
def atB:J:=.ca [ad 15 5,a_ 16 .add 3 15 1,aJ 5 16] (some [0,1,5])
def atC:J:=.seq (.block 1 (hW [ad 17 0,ad 18 5,cn 19 36 17 18,aP 20 124 19,ad 21 1,ad 22 5,cn 23 36 21 22,aP 24 124 23,dD 25 94 20 24,eH 26 25] [[],[],[0,1],[2],[],[],[4,5],[6],[3,7],[8]] [0,1,5,26] atA)) atB
def Pc:J:=.seq (U [ad 11 5,ad 12 0,bX 13 36 12,bP 14 .lss 3 11 13] [0,1,5,14] aty) atC
def atD:J:=.block 0 (.loop Pc)
def atE:J:=U [bx 4 true] [4] .ret
def atF:J:=.seq (U [a7 5 0] [0,1,5] atD) atE
def atG:J:=.seq (U [ad 6 0,bX 7 36 6,ad 8 1,bX 9 36 8,bP 10 .neq 3 7 9] [0,1,10] atx) atF
def atH:J:=U [bx 4 false] [0,1] atG
theorem atI:bn ⟨27,[0,1]⟩ (Tryz.f54.body.getD .skip)=some atH.strip:=by kernel_rfl
def atJ:J:=U [bx 4 false] [4] .ret
def atK:J:=.cond (.t 10) atJ .skip
def atL:J:=.cond (.t 14) .skip (.exit 0)
def atM:J:=U [bx 4 false] [4] .ret
def atN:J:=.cond (.t 25) atM .skip
def atO:J:=.ca [ad 15 5,a_ 16 .add 3 15 1,aJ 5 16] (some [0,1,5])
def atP:J:=.seq (.block 1 (hW [ad 17 0,ad 18 5,cn 19 25 17 18,aP 20 9 19,ad 21 1,ad 22 5,cn 23 25 21 22,aP 24 9 23,bP 25 .neq 9 20 24] [[],[],[0,1],[2],[],[],[4,5],[6],[3,7]] [0,1,5,25] atN)) atO
def Pd:J:=.seq (U [ad 11 5,ad 12 0,bX 13 25 12,bP 14 .lss 3 11 13] [0,1,5,14] atL) atP
def atQ:J:=.block 0 (.loop Pd)
def atS:J:=U [bx 4 true] [4] .ret
def atT:J:=.seq (U [a7 5 0] [0,1,5] atQ) atS
def atU:J:=.seq (U [ad 6 0,bX 7 25 6,ad 8 1,bX 9 25 8,bP 10 .neq 3 7 9] [0,1,10] atK) atT
def atV:J:=U [bx 4 false] [0,1] atU
theorem atW:bn ⟨26,[0,1]⟩ (Tryz.f55.body.getD .skip)=some atV.strip:=by kernel_rfl
def atX:J:=U [bx 4 false] [4] .ret
def atY:J:=.cond (.t 10) atX .skip
def atZ:J:=U [bx 4 false] [4] .ret
def at0:J:=.cond (.t 16) atZ .skip
def at1:J:=U [bx 4 false] [4] .ret
def at2:J:=.cond (.t 22) at1 .skip
def at3:J:=U [bx 4 false] [4] .ret
def at4:J:=.cond (.t 28) at3 .skip
def at5:J:=U [bx 4 false] [4] .ret
def at6:J:=.cond (.t 34) at5 .skip
def at7:J:=U [bx 4 true] [4] .ret
def at8:J:=.seq (U [a1 29 38 2 4,aP 30 25 29,a1 31 38 3 4,aP 32 25 31,dD 33 55 30 32,eH 34 33] [34] at6) at7
def at9:J:=.seq (U [a1 23 38 2 3,aP 24 25 23,a1 25 38 3 3,aP 26 25 25,dD 27 55 24 26,eH 28 27] [2,3,28] at4) at8
def aua:J:=.seq (U [a1 17 38 2 2,aP 18 36 17,a1 19 38 3 2,aP 20 36 19,dD 21 54 18 20,eH 22 21] [2,3,22] at2) at9
def aub:J:=.seq (U [a1 11 38 2 1,aP 12 35 11,a1 13 38 3 1,aP 14 35 13,dD 15 53 12 14,eH 16 15] [2,3,16] at0) aua
def auc:J:=.seq (U [a1 5 38 2 0,aP 6 34 5,a1 7 38 3 0,aP 8 34 7,dD 9 52 6 8,eH 10 9] [2,3,10] atY) aub
def aud:J:=U [ro 2 (.da 38 (.t 0)),ro 3 (.da 38 (.t 1)),bx 4 false] [2,3] auc
theorem wV:bn ⟨35,[0,1]⟩ (Tryz.f15.body.getD .skip)=some aud.strip:=by kernel_rfl
def aue:J:=U [ro 2 (.iR (.c (.str [109,48])))] [2] .ret
def auf:J:=.cond (.t 5) aue .skip
def aug:J:=.cond (.t 7) .skip (.exit 0)
def auh:J:=.ca [ad 16 0,a_ 17 .quo 3 16 10,aJ 0 17] (some [0,3])
def aui:J:=.block 1 (U [ad 8 0,a_ 9 .rem 3 8 10,ro 10 (.ck .add 3 (.c (.int .i64 48)) (.t 9)),M0 11 3 5 10,BX 12 193 11,M0 13 193 9 12,ad 14 3,bP 15 .add 9 13 14,aJ 3 15] [0,3] auh)
def Pe:J:=.seq (U [ad 6 0,a_ 7 .gtr 3 6 0] [0,3,7] aug) aui
def auj:J:=U [ad 18 3,ro 19 (.ck .add 9 (.c (.str [109])) (.t 18)),aJ 2 19] [2] .ret
def auk:J:=.seq (.block 0 (.loop Pe)) auj
def aul:J:=U [ro 3 (.iR (.c (.str [])))] [0,3] auk
def aum:J:=.seq (U [ad 4 0,a_ 5 .leq 3 4 0] [0,5] auf) aul
def aun:J:=U [ro 2 (.iR (.c (.str [])))] [0] aum
theorem auo:bn ⟨20,[]⟩ (Tryz.f95.body.getD .skip)=some aun.strip:=by kernel_rfl
def aup:J:=.cond (.t 9) .skip (.exit 0)
def auq:J:=.ca [ad 24 1,a_ 25 .add 3 24 1,aJ 1 25] (some [0,1,5])
def aur:J:=U [ad 19 0,ad 20 5,ad 21 1,cn 22 145 19 20,a1 23 196 22 1,dW 2 23 21] [0,1,5] auq
def aus:J:=U [ad 17 1,a_ 18 .add 3 17 1,aJ 1 18] [0,1,5] aur
def aut:J:=.ca [ad 10 5,a_ 11 .add 3 10 1,aJ 5 11] (some [0,1,5])
def auu:J:=.seq (.block 1 (U [ad 12 0,ad 13 5,ad 14 1,cn 15 145 12 13,a1 16 196 15 0,dW 2 16 14] [0,1,5] aus)) aut
def Pf:J:=.seq (U [ad 6 5,ad 7 0,bX 8 145 7,bP 9 .lss 3 6 8] [0,1,5,9] aup) auu
def auv:J:=.block 0 (.loop Pf)
def auw:J:=U [ad 26 1,aJ 4 26] [0,4] .ret
def auy:J:=.seq (U [a7 5 0] [0,1,5] auv) auw
def auz:J:=U [a7 4 0] [0,1] auy
theorem auA:bn ⟨27,[0]⟩ (Tryz.f113.body.getD .skip)=some auz.strip:=by kernel_rfl
def auB:J:=.cond (.t 9) .skip (.exit 0)
def auC:J:=.ca [ad 10 5,a_ 11 .add 3 10 1,aJ 5 11] (some [0,1,5])
def auD:J:=.seq (.block 1 (.ca [ad 12 0,ad 13 5,cn 14 146 12 13,aP 15 145 14,ad 16 1,dD 17 113 15 16,aJ 1 17] (some [0,1,5]))) auC
def Pg:J:=.seq (U [ad 6 5,ad 7 0,bX 8 146 7,bP 9 .lss 3 6 8] [0,1,5,9] auB) auD
def auE:J:=.block 0 (.loop Pg)
def auF:J:=U [ad 18 1,aJ 4 18] [0,4] .ret
def auG:J:=.seq (U [a7 5 0] [0,1,5] auE) auF
def auH:J:=U [a7 4 0] [0,1] auG
theorem auI:bn ⟨19,[0]⟩ (Tryz.f114.body.getD .skip)=some auH.strip:=by kernel_rfl
def auJ:J:=.cond (.t 9) .skip (.exit 0)
def auK:J:=.ca [ad 34 0,ad 35 5,cn 36 119 34 35,a1 37 178 36 3,aP 38 146 37,ad 39 1,dD 40 114 38 39,aJ 1 40] (some [0,1,5])
def auL:J:=U [ad 32 1,a_ 33 .add 3 32 1,aJ 1 33] [0,1,5] auK
def auM:J:=U [ad 26 0,ad 27 5,ad 28 1,dQ 29 95 28,cn 30 119 26 27,a1 31 178 30 2,dW 9 31 29] [0,1,5] auL
def auN:J:=U [ad 24 1,a_ 25 .add 3 24 1,aJ 1 25] [0,1,5] auM
def auO:J:=U [ad 19 0,ad 20 5,ad 21 1,cn 22 119 19 20,a1 23 178 22 1,dW 2 23 21] [0,1,5] auN
def auP:J:=U [ad 17 1,a_ 18 .add 3 17 1,aJ 1 18] [0,1,5] auO
def auQ:J:=.ca [ad 10 5,a_ 11 .add 3 10 1,aJ 5 11] (some [0,1,5])
def auR:J:=.seq (.block 1 (U [ad 12 0,ad 13 5,ad 14 1,cn 15 119 12 13,a1 16 178 15 0,dW 2 16 14] [0,1,5] auP)) auQ
def Ph:J:=.seq (U [ad 6 5,ad 7 0,bX 8 119 7,bP 9 .lss 3 6 8] [0,1,5,9] auJ) auR
def auS:J:=.block 0 (.loop Ph)
def auT:J:=U [ad 41 1,aJ 4 41] [0,4] .ret
def auU:J:=.seq (U [a7 5 0] [0,1,5] auS) auT
def auV:J:=U [a7 4 0] [0,1] auU
theorem auW:bn ⟨42,[0]⟩ (Tryz.f96.body.getD .skip)=some auV.strip:=by kernel_rfl
def auX:J:=.cond (.t 9) .skip (.exit 0)
def auY:J:=.ca [ad 27 0,ad 28 5,cn 29 34 27 28,a1 30 121 29 2,aP 31 119 30,ad 32 1,dD 33 96 31 32,aJ 1 33] (some [0,1,5])
def auZ:J:=U [ad 25 1,a_ 26 .add 3 25 1,aJ 1 26] [0,1,5] auY
def au0:J:=U [ad 20 0,ad 21 5,ad 22 1,cn 23 34 20 21,a1 24 121 23 1,dW 2 24 22] [0,1,5] auZ
def au1:J:=U [ad 18 1,a_ 19 .add 3 18 1,aJ 1 19] [0,1,5] au0
def au2:J:=.ca [ad 10 5,a_ 11 .add 3 10 1,aJ 5 11] (some [0,1,5])
def au3:J:=.seq (.block 1 (U [ad 12 0,ad 13 5,ad 14 1,dQ 15 95 14,cn 16 34 12 13,a1 17 121 16 0,dW 9 17 15] [0,1,5] au1)) au2
def Pj:J:=.seq (U [ad 6 5,ad 7 0,bX 8 34 7,bP 9 .lss 3 6 8] [0,1,5,9] auX) au3
def au4:J:=.block 0 (.loop Pj)
def au5:J:=U [ad 34 1,aJ 4 34] [0,4] .ret
def au6:J:=.seq (U [a7 5 0] [0,1,5] au4) au5
def au7:J:=U [a7 4 0] [0,1] au6
theorem au8:bn ⟨35,[0]⟩ (Tryz.f56.body.getD .skip)=some au7.strip:=by kernel_rfl
def au9:J:=.cond (.t 9) .skip (.exit 0)
def au_:J:=.ca [ad 16 1,a_ 17 .add 3 16 1,aJ 1 17] (some [0,1,5])
def ava:J:=.ca [ad 10 5,a_ 11 .add 3 10 1,aJ 5 11] (some [0,1,5])
def avb:J:=.seq (.block 1 (U [ad 12 0,ad 13 5,ad 14 1,cn 15 46 12 13,dW 2 15 14] [0,1,5] au_)) ava
def Pk:J:=.seq (U [ad 6 5,ad 7 0,bX 8 46 7,bP 9 .lss 3 6 8] [0,1,5,9] au9) avb
def avc:J:=.block 0 (.loop Pk)
def avd:J:=U [ad 18 1,aJ 4 18] [0,4] .ret
def ave:J:=.seq (U [a7 5 0] [0,1,5] avc) avd
def avf:J:=U [a7 4 0] [0,1] ave
theorem px:bn ⟨19,[0]⟩ (Tryz.f28.body.getD .skip)=some avf.strip:=by kernel_rfl
def avg:J:=.cond (.t 9) .skip (.exit 0)
def avh:J:=.ca [ad 19 0,ad 20 5,cn 21 35 19 20,a1 22 100 21 1,aP 23 46 22,ad 24 1,dD 25 28 23 24,aJ 1 25] (some [0,1,5])
def avi:J:=U [ad 17 1,a_ 18 .add 3 17 1,aJ 1 18] [0,1,5] avh
def avj:J:=.ca [ad 10 5,a_ 11 .add 3 10 1,aJ 5 11] (some [0,1,5])
def avk:J:=.seq (.block 1 (U [ad 12 0,ad 13 5,ad 14 1,cn 15 35 12 13,a1 16 100 15 0,dW 2 16 14] [0,1,5] avi)) avj
def Pl:J:=.seq (U [ad 6 5,ad 7 0,bX 8 35 7,bP 9 .lss 3 6 8] [0,1,5,9] avg) avk
def avl:J:=.block 0 (.loop Pl)
def avm:J:=U [ad 26 1,aJ 4 26] [0,4] .ret
def avn:J:=.seq (U [a7 5 0] [0,1,5] avl) avm
def avo:J:=U [a7 4 0] [0,1] avn
theorem avp:bn ⟨27,[0]⟩ (Tryz.f57.body.getD .skip)=some avo.strip:=by kernel_rfl
def avq:J:=.cond (.t 9) .skip (.exit 0)
def avr:J:=.ca [ad 34 1,a_ 35 .add 3 34 1,aJ 1 35] (some [0,1,5])
def avs:J:=U [ad 28 0,ad 29 5,ad 30 1,dQ 31 95 30,cn 32 36 28 29,a1 33 124 32 2,dW 9 33 31] [0,1,5] avr
def avt:J:=U [ad 26 1,a_ 27 .add 3 26 1,aJ 1 27] [0,1,5] avs
def avu:J:=U [ad 20 0,ad 21 5,ad 22 1,dQ 23 95 22,cn 24 36 20 21,a1 25 124 24 1,dW 9 25 23] [0,1,5] avt
def avv:J:=U [ad 18 1,a_ 19 .add 3 18 1,aJ 1 19] [0,1,5] avu
def avw:J:=.ca [ad 10 5,a_ 11 .add 3 10 1,aJ 5 11] (some [0,1,5])
def avx:J:=.seq (.block 1 (U [ad 12 0,ad 13 5,ad 14 1,dQ 15 95 14,cn 16 36 12 13,a1 17 124 16 0,dW 9 17 15] [0,1,5] avv)) avw
def Pm:J:=.seq (U [ad 6 5,ad 7 0,bX 8 36 7,bP 9 .lss 3 6 8] [0,1,5,9] avq) avx
def avy:J:=.block 0 (.loop Pm)
def avz:J:=U [ad 36 1,aJ 4 36] [0,4] .ret
def avA:J:=.seq (U [a7 5 0] [0,1,5] avy) avz
def avB:J:=U [a7 4 0] [0,1] avA
theorem avC:bn ⟨37,[0]⟩ (Tryz.f58.body.getD .skip)=some avB.strip:=by kernel_rfl
def avD:J:=.cond (.t 9) .skip (.exit 0)
def avE:J:=.ca [ad 17 1,a_ 18 .add 3 17 1,aJ 1 18] (some [0,1,5])
def avF:J:=.ca [ad 10 5,a_ 11 .add 3 10 1,aJ 5 11] (some [0,1,5])
def avG:J:=.seq (.block 1 (U [ad 12 0,ad 13 5,ad 14 1,dQ 15 95 14,cn 16 25 12 13,dW 9 16 15] [0,1,5] avE)) avF
def Pn:J:=.seq (U [ad 6 5,ad 7 0,bX 8 25 7,bP 9 .lss 3 6 8] [0,1,5,9] avD) avG
def avH:J:=.block 0 (.loop Pn)
def avI:J:=U [ad 19 1,aJ 4 19] [0,4] .ret
def avJ:J:=.seq (U [a7 5 0] [0,1,5] avH) avI
def avK:J:=U [a7 4 0] [0,1] avJ
theorem avL:bn ⟨20,[0]⟩ (Tryz.f59.body.getD .skip)=some avK.strip:=by kernel_rfl
def avM:J:=U [ad 25 1,aJ 4 25] [0,4] .ret
def avN:J:=U [a1 21 38 2 4,aP 22 25 21,ad 23 1,dD 24 59 22 23,aJ 1 24] [0,1] avM
def avO:J:=U [a1 17 38 2 3,aP 18 25 17,ad 19 1,⟨some 20,.ky (.f 59) [(.t 18),(.t 19)] [2],none⟩,aJ 1 20] [0,1,2] avN
def avP:J:=U [a1 13 38 2 2,aP 14 36 13,ad 15 1,⟨some 16,.ky (.f 58) [(.t 14),(.t 15)] [2],none⟩,aJ 1 16] [0,1,2] avO
def avQ:J:=U [a1 9 38 2 1,aP 10 35 9,ad 11 1,⟨some 12,.ky (.f 57) [(.t 10),(.t 11)] [2],none⟩,aJ 1 12] [0,1,2] avP
def avR:J:=U [a1 5 38 2 0,aP 6 34 5,ad 7 1,⟨some 8,.ky (.f 56) [(.t 6),(.t 7)] [2],none⟩,aJ 1 8] [0,1,2] avQ
def avS:J:=U [⟨some 2,.j4 38 (.t 0),none⟩,a7 4 0] [0,1,2] avR
theorem uy:bn ⟨26,[0]⟩ (Tryz.f16.body.getD .skip)=some avS.strip:=by kernel_rfl
def avT:J:=.cond (.t 9) .skip (.exit 0)
def avU:J:=.ca [ad 26 0,ad 27 5,cn 28 31 26 27,a1 29 82 28 2,aP 30 46 29,ad 31 1,dD 32 28 30 31,aJ 1 32] (some [0,1,5])
def avV:J:=U [ad 24 1,a_ 25 .add 3 24 1,aJ 1 25] [0,1,5] avU
def avW:J:=U [ad 19 0,ad 20 5,ad 21 1,cn 22 31 19 20,a1 23 82 22 1,dW 2 23 21] [0,1,5] avV
def avX:J:=U [ad 17 1,a_ 18 .add 3 17 1,aJ 1 18] [0,1,5] avW
def avY:J:=.ca [ad 10 5,a_ 11 .add 3 10 1,aJ 5 11] (some [0,1,5])
def avZ:J:=.seq (.block 1 (U [ad 12 0,ad 13 5,ad 14 1,cn 15 31 12 13,a1 16 82 15 0,dW 2 16 14] [0,1,5] avX)) avY
def Po:J:=.seq (U [ad 6 5,ad 7 0,bX 8 31 7,bP 9 .lss 3 6 8] [0,1,5,9] avT) avZ
def av0:J:=.block 0 (.loop Po)
def av1:J:=U [ad 33 1,aJ 4 33] [0,4] .ret
def av2:J:=.seq (U [a7 5 0] [0,1,5] av0) av1
def av3:J:=U [a7 4 0] [0,1] av2
theorem uz:bn ⟨34,[0]⟩ (Tryz.f17.body.getD .skip)=some av3.strip:=by kernel_rfl
def av4:J:=.cond (.t 9) .skip (.exit 0)
def av5:J:=U [a7 4 (-1)] [4] .ret
def av6:J:=.cond (.t 17) av5 .skip
def av7:J:=.ca [ad 18 1,a_ 19 .add 3 18 1,aJ 1 19] (some [0,1,5])
def av8:J:=.ca [ad 10 5,a_ 11 .add 3 10 1,aJ 5 11] (some [0,1,5])
def av9:J:=.seq (.block 1 (.seq (U [ad 12 0,ad 13 5,cn 14 46 12 13,aP 15 2 14,ad 16 1,bP 17 .neq 2 15 16] [0,1,5,17] av6) av7)) av8
def Pp:J:=.seq (U [ad 6 5,ad 7 0,bX 8 46 7,bP 9 .lss 3 6 8] [0,1,5,9] av4) av9
def av_:J:=.block 0 (.loop Pp)
def awa:J:=U [ad 20 1,aJ 4 20] [4] .ret
def awb:J:=.seq (U [a7 5 0] [0,1,5] av_) awa
def awc:J:=U [a7 4 0] [0,1] awb
theorem awd:bn ⟨21,[0]⟩ (Tryz.f60.body.getD .skip)=some awc.strip:=by kernel_rfl
def awe:J:=.cond (.t 9) .skip (.exit 0)
def awf:J:=U [a7 4 (-1)] [4] .ret
def awg:J:=.cond (.t 18) awf .skip
def awh:J:=U [a7 4 (-1)] [4] .ret
def awi:J:=.cond (.t 27) awh .skip
def awj:J:=U [a7 4 (-1)] [4] .ret
def awk:J:=.cond (.t 38) awj .skip
def awl:J:=U [ad 37 1,a_ 38 .lss 3 37 0] [0,1,5,38] awk
def awm:J:=U [ad 30 0,ad 31 5,cn 32 31 30 31,a1 33 82 32 2,aP 34 46 33,ad 35 1,dD 36 60 34 35,aJ 1 36] [0,1,5] awl
def awn:J:=U [ad 28 1,a_ 29 .add 3 28 1,aJ 1 29] [0,1,5] awm
def awo:J:=.seq (U [ad 21 0,ad 22 5,cn 23 31 21 22,a1 24 82 23 1,aP 25 2 24,ad 26 1,bP 27 .neq 2 25 26] [0,1,5,27] awi) awn
def awp:J:=U [ad 19 1,a_ 20 .add 3 19 1,aJ 1 20] [0,1,5] awo
def awq:J:=.ca [ad 10 5,a_ 11 .add 3 10 1,aJ 5 11] (some [0,1,5])
def awr:J:=.seq (.block 1 (.seq (U [ad 12 0,ad 13 5,cn 14 31 12 13,a1 15 82 14 0,aP 16 2 15,ad 17 1,bP 18 .neq 2 16 17] [0,1,5,18] awg) awp)) awq
def Pq:J:=.seq (U [ad 6 5,ad 7 0,bX 8 31 7,bP 9 .lss 3 6 8] [0,1,5,9] awe) awr
def aws:J:=.block 0 (.loop Pq)
def awt:J:=U [ad 39 1,aJ 4 39] [4] .ret
def awu:J:=.seq (U [a7 5 0] [0,1,5] aws) awt
def awv:J:=U [a7 4 0] [0,1] awu
theorem aww:bn ⟨40,[0]⟩ (Tryz.f18.body.getD .skip)=some awv.strip:=by kernel_rfl
def awx:J:=U [bx 4 true] [4] .ret
def awy:J:=.cond (.t 21) awx .skip
def awz:J:=U [bx 4 true] [4] .ret
def awA:J:=.cond (.t 26) awz .skip
def awB:J:=U [bx 4 false] [4] .ret
def awC:J:=.cond (.t 53) awB .skip
def awD:J:=U [bx 4 false] [4] .ret
def awE:J:=.cond (.t 58) awD .skip
def awF:J:=U [bx 4 false] [4] .ret
def awG:J:=.cond (.t 63) awF .skip
def awH:J:=U [bx 4 false] [4] .ret
def awI:J:=.cond (.t 82) awH .skip
def awJ:J:=U [bx 4 false] [4] .ret
def awK:J:=.cond (.t 90) awJ .skip
def awL:J:=U [bx 4 false] [4] .ret
def awM:J:=.cond (.t 93) awL .skip
def awN:J:=U [bx 4 false] [4] .ret
def awO:J:=.cond (.t 110) awN .skip
def awP:J:=U [bx 4 false] [4] .ret
def awQ:J:=.cond (.t 115) awP .skip
def awR:J:=U [bx 4 false] [4] .ret
def awS:J:=.cond (.t 118) awR .skip
def awT:J:=U [bx 4 true] [4] .ret
def awU:J:=.seq (U [ad 116 14,ad 117 13,bP 118 .neq 3 116 117] [118] awS) awT
def awV:J:=.seq (U [ad 114 14,a_ 115 .lss 3 114 0] [13,14,115] awQ) awU
def awW:J:=U [ad 111 10,ad 112 14,dD 113 18 111 112,aJ 14 113] [13,14] awV
def awX:J:=U [a7 14 1] [10,13,14] awW
def awY:J:=.seq (U [ad 102 15,ad 103 6,dD 104 14 102 103,eH 105 104,ad 106 105,bo 107 106 (.ct (.t 16)),bo 108 106 (.ct (.t 7)),bo 109 106 (.ck .neq 2 (.t 107) (.t 108)),ro 110 (.pick (.t 106) (.c (.bool true)) (.t 109))] [10,13,110] awO) awX
def awZ:J:=U [aP 95 27 2,dQ 96 11 95,ad 97 1,dQ 98 12 97,dD 99 13 96 98,ad 94 99,qc 100 94 0,qc 101 94 1,aJ 15 100,aJ 16 101] [6,7,10,13,15,16] awY
def aw0:J:=.seq (U [ad 91 14,ad 92 13,bP 93 .neq 3 91 92] [1,2,6,7,10,13,93] awM) awZ
def aw1:J:=.seq (U [ad 89 14,a_ 90 .lss 3 89 0] [1,2,6,7,10,13,14,90] awK) aw0
def aw2:J:=U [ad 86 10,ad 87 14,dD 88 18 86 87,aJ 14 88] [1,2,6,7,10,13,14] aw1
def aw3:J:=U [a7 14 1] [1,2,6,7,10,13,14] aw2
def aw4:J:=U [ad 83 10,ad 84 13,dD 85 17 83 84,aJ 13 85] [1,2,6,7,10,13] aw3
def aw5:J:=U [a7 13 1] [1,2,6,7,10,13] aw4
def aw6:J:=.seq (U [ad 70 12,a_ 71 .lss 3 70 0,ad 72 71,bo 73 72 (.ct (.t 10)),bo 74 72 (.ct (.t 6)),⟨some 75,.call (.f 14) [(.t 73),(.t 74)],some (72,false)⟩,bo 76 72 (.un .not (.t 75)),ro 77 (.pick (.t 72) (.c (.bool true)) (.t 76)),ad 78 77,bo 79 78 (.ct (.t 11)),bo 80 78 (.ct (.t 7)),bo 81 78 (.ck .neq 2 (.t 79) (.t 80)),ro 82 (.pick (.t 78) (.c (.bool true)) (.t 81))] [1,2,6,7,10,82] awI) aw5
def aw7:J:=U [ad 67 9,ad 68 12,dD 69 17 67 68,aJ 12 69] [1,2,6,7,10,11,12] aw6
def aw8:J:=U [aP 64 38 8,ad 65 12,dD 66 16 64 65,aJ 12 66] [1,2,6,7,9,10,11,12] aw7
def aw9:J:=U [a7 12 1] [1,2,6,7,8,9,10,11,12] aw8
def aw_:J:=.seq (U [ad 59 9,ad 60 1,dQ 61 12 60,dD 62 14 59 61,eH 63 62] [1,2,6,7,8,9,10,11,63] awG) aw9
def axa:J:=.seq (hW [aP 54 38 8,aP 55 27 2,dQ 56 11 55,dD 57 15 54 56,eH 58 57] [[],[],[1],[0,2,2],[3]] [1,2,6,7,8,9,10,11,58] awE) aw_
def axb:J:=.seq (U [ad 45 10,ad 46 6,dD 47 14 45 46,eH 48 47,ad 49 48,bo 50 49 (.ct (.t 11)),bo 51 49 (.ct (.t 7)),bo 52 49 (.ck .neq 2 (.t 50) (.t 51)),ro 53 (.pick (.t 49) (.c (.bool true)) (.t 52))] [1,2,6,7,8,9,10,11,53] awC) axa
def axc:J:=U [aP 40 38 8,ad 41 9,dD 42 13 40 41,ad 39 42,qc 43 39 0,qc 44 39 1,aJ 10 43,aJ 11 44] [1,2,6,7,8,9,10,11] axb
def axd:J:=U [ad 37 1,dQ 38 12 37,aJ 9 38] [1,2,6,7,8,9] axc
def axe:J:=U [aP 35 27 2,dQ 36 11 35,iF 8 38,dW 38 8 36] [1,2,6,7,8] axd
def axf:J:=U [aP 28 27 2,dQ 29 11 28,ad 30 1,dQ 31 12 30,dD 32 10 29 31,ad 27 32,qc 33 27 0,qc 34 27 1,aJ 6 33,aJ 7 34] [1,2,6,7] axe
def axg:J:=.seq (U [ad 25 5,a_ 26 .lss 3 25 0] [1,2,26] awA) axf
def axh:J:=U [ad 22 1,ad 23 5,dD 24 9 22 23,aJ 5 24] [1,2,5] axg
def axi:J:=.seq (U [ad 20 5,a_ 21 .lss 3 20 0] [1,2,5,21] awy) axh
def axj:J:=U [aP 17 27 2,ad 18 5,dD 19 8 17 18,aJ 5 19] [1,2,5] axi
def axk:J:=U [a7 5 1048576] [1,2,5] axj
def je:J:=U [ro 2 (.da 27 (.t 0)),bx 4 false] [1,2] axk
theorem e4:bn ⟨119,[0,1]⟩ (Tryz.f3.body.getD .skip)=some je.strip:=by kernel_rfl
def Ab:=PLift.up (And.intro @Bool.not_true @Bool.not_false)
def q7:=PLift.up (And.intro @List.length_append.{0} (And.intro @List.length_cons.{0} (And.intro @List.length_nil.{0} (And.intro @List.length_map.{0,0} (And.intro @List.length_replicate.{0} (And.intro @Nat.zero_add @Nat.add_zero))))))
end Go.Proofs.YtocllehpepigpaaGreat
