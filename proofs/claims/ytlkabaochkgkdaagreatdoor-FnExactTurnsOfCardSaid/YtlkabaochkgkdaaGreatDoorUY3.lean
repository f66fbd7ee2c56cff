/- Part of a proof that a law returns true for every input. No condition. -/
import Derived.Test.YtlkabaochkgkdaaGreatDoorUY2
import Derived.Test.YtlkabaochkgkdaaGreatDoorUD6
namespace Go.eU
open Go Go.c_
def we (s:eI):Prop:=BM s.fv/\(s.bK.length<=1048576/\∀c∈s.bK,c.fE.length<=1048576)/\Gz s.hZ/\
 (s.hN.length<=1048576/\∀x∈s.hN,x.length<=1048576)/\(s.hO.length<=1048576/\∀x∈s.hO,x.length<=1048576)
noncomputable def wg (s:eI):Int:=cond (!v7 s.fv) 1 (cond (!BN s) 2 (cond (!wc s.hZ) 3 (cond (!rm s.hN) 4 (cond (!rm s.hO) 5 0))))
theorem aGE (s:eI) (h:we s):DS s=some (wg s):=by
 obtain⟨ag,ah,aN,bg,bR⟩:=h;unfold DS wg;rw[aGm _ ag,aGu s ag.1 ah.1 ah.2,aGC _ aN,Tr _ bg.1,Tr _ bR.1];simp only[Option.bind_some];cases v7 s.fv<;>cases BN s<;>cases wc s.hZ<;>cases rm s.hN<;>cases rm s.hO<;>rfl
theorem aGF (s:eI) (h:we s):EC s=some (wg s):=by
 obtain⟨ag,ah,aN,bg,bR⟩:=h;unfold EC jj wg BN;have om:decide ((1:Int)<=(s.bK.length:Int))=decide (1<=s.bK.length):=decide_eq_decide.2 (by omega);have nF:decide ((s.bK.length:Int)<=3)=decide (s.bK.length<=3):=decide_eq_decide.2 (by omega);rw[aGo _ ag,aGw s ag.1 ah.1 ah.2,aGD _ aN,Ts _ bg.1 bg.2,Ts _ bR.1 bR.2];simp only[Option.bind_some];rw[om,nF];cases v7 s.fv<;>cases(decide (1<=s.bK.length)&&decide (s.bK.length<=3))<;>cases gn (λi=>v_ s.fv (k3 s.bK i)) s.bK.length<;>
  cases wc s.hZ<;>cases rm s.hN<;>cases rm s.hO<;>rfl
theorem aGG {s:eI} (h:qs s<=1048576):we s:=by
 unfold qs at h;refine⟨aGl (by omega),⟨Nat.le_trans (i6 ly _) (by omega),λc aq=>?_⟩,⟨Nat.le_trans (i6 lz _) (by omega),λm hm=>?_⟩,⟨Nat.le_trans (i6 List.length _) (by omega),λx aw=>?_⟩,⟨Nat.le_trans (i6 List.length _) (by omega),λx aw=>?_⟩⟩
 .have ag:ly c<=dO ly s.bK:=lv aq;have ah:ly c<=1048576:=by omega
  clear ag;unfold ly at ah;omega
 .have ag:lz m<=dO lz s.hZ:=lv hm;have ah:lz m<=1048576:=by omega
  clear ag;unfold lz at ah;omega
 .have ag:x.length<=dO List.length s.hN:=lv aw;omega
 .have ag:x.length<=dO List.length s.hO:=lv aw;omega
theorem aGH (a:lL) (cf:zP a):
  ∃r,zW a 1048576=some r/\(decide (r<0)=false->tb a=some (rh a)/\AV (rh a) (rh a)=some true/\
   we (rh a)/\r=1048576-(tE a:Nat)/\0<=r):=by
 refine⟨_,aEm a 1048576 cf (by omega) (by omega),λh=>?_⟩;by_cases ae:tE a<=1048576
 .have p3:qs (rh a)<=1048576:=by rw[So];exact ae
  exact⟨aEF a ae,aEU _ p3,aGG p3,Bw (by omega),by rw[Bw (by omega)];omega⟩
 .rw[Bx (by omega)]at h;simp at h
end Go.eU
