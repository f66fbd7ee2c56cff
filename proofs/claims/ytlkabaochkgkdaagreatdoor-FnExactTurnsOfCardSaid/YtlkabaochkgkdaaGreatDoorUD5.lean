/- Part of a proof that a law returns true for every input. No condition. -/
import Derived.Test.YtlkabaochkgkdaaGreatDoorUD4
namespace Go.eU
open Go Go.c_
theorem vZ {β:Type} {l:Nat->Int->Option β} {n:Nat} (p:Nat->Bool) (qt bad:Option β) (ba:∀m,l (m+1) (n:Int)=qt)
  (ae:∀i,i<n->∀m,l (m+1) (i:Int)=cond (p i) (l m ((i+1:Nat):Int)) bad):cB (λm=>l m 0)=cond (gn p n) qt bad:=by
 rw[sa (n:=n) (λi=>cond ((List.range' i (n-i)).all p) qt bad)]
 .simp[gn,List.range_eq_range']
 .intro m;rw[ba];simp
 .intro i an m ih;rw[ae i an,ih,show n-i=(n-(i+1))+1 by omega,List.range'_succ];cases au:p i<;>simp[au]
def Tn (d:bs):Prop:=d.Name.length<=1048576/\d.Body.length<=1048576/\∀p∈d.Body,BL p
def tI (b:List bH):Bool:=(decide (1<=b.length)&&decide (b.length<=20))&&tF b 1
theorem To {b:List bH} (h:tI b=true):fb b 1=some b.length/\1<=b.length/\b.length<=20:=by
 simp only[tI,KY,Bool.and_eq_true,decide_eq_true_eq,beq_iff_eq]at h;exact⟨h.2,h.1.1,h.1.2⟩
def so (d:bs) (i:Nat):cL:=(hE d.Body [⟨d.dE,false⟩]).getD i ⟨0,false⟩
theorem aGh (d:bs) (h:tI d.Body=true) (au:0<=d.dE/\d.dE<=3) (i:Nat) (an:i<d.Body.length):
  xD d (i:Int)=some (so d i).scope/\0<=(so d i).scope/\(so d i).scope<=29/\
   (so d i).behind=K2 d.Body i/\
   (hE d.Body [⟨d.dE,false⟩])[i]? =some (so d i):=by
 obtain⟨ag,ah,aN⟩:=To h;obtain⟨s,pl,aX,a6,aQ⟩:=Tj d.Body [⟨d.dE,false⟩] d.Body.length ag i an;have ae:s=⟨d.dE,false⟩:=by
  simp only[tG,ag]at aX;rw[if_pos an]at aX;exact(Option.some.inj aX).symm
 subst ae;have gE:so d i=pl:=by unfold so;rw[List.getD_eq_getElem?_getD,a6];rfl
 have aq:=Tf d.Body i;simp only at aQ;refine⟨?_,?_,?_,?_,?_⟩
 .rw[aF3 d (by omega) ag (by omega) i an,gE,aQ]
 .rw[gE,aQ];omega
 .rw[gE,aQ];omega
 .rw[gE];exact aF7 d.Body ⟨d.dE,false⟩ rfl i pl a6
 .rw[gE];exact a6
theorem aGi (list:List bs) (hl:list.length<=4) (d:bs) (aj:Tn d) (au:0<=d.dE/\d.dE<=3):
  ∃r,xF list d=some r/\AA list d=some r/\0<=r.2/\(r.2=0->tI d.Body=true):=by
 unfold xF AA jj;rw[aFP _ aj.2.1];have BC:=aFQ d aj.2.1 0 (Nat.zero_le _);rw[show((0:Nat):Int)=0 from rfl,List.drop_zero]at BC;simp only[Option.bind_some];have om:decide ((1:Int)<=(d.Body.length:Int))=decide (1<=d.Body.length):=decide_eq_decide.2 (by omega);have nF:decide ((d.Body.length:Int)<=20)=decide (d.Body.length<=20):=decide_eq_decide.2 (by omega);rw[om,nF];show∃r,cond (!tI d.Body) _ _=_/\_;cases ae:tI d.Body
 .refine⟨(0,1),rfl,?_,by decide,λh=>by cases h⟩;cases aq:(decide (1<=d.Body.length)&&decide (d.Body.length<=20))
  .rfl
  .rw[BC];have hw:tF d.Body 1=false:=by
    unfold tI at ae;rw[aq,Bool.true_and]at ae;exact ae
   have:(rl 0 (fb d.Body 1) !=(d.Body.length:Int))=true:=by
    rw[KY]at hw;cases he:fb d.Body 1 with
    |none=>simp only[rl,bne_iff_ne];omega
    |some n=>
     rw[he]at hw;have dL:n≠d.Body.length:=λe=>by simp[e]at hw
     simp only[rl,bne_iff_ne];omega
   simp only[Bool.not_true,cond_false,Option.bind_some,this,cond_true]
 .obtain⟨ag,ah,aN⟩:=To ae;have aq:(decide (1<=d.Body.length)&&decide (d.Body.length<=20))=true:=by simp;omega
  have dL:(rl 0 (some d.Body.length) !=(d.Body.length:Int))=false:=by simp[rl]
  rw[aq,BC,ag];simp only[Bool.not_true,cond_false,Option.bind_some,dL];rw[aF1 d aj.2.1 ag au.1 (by omega)];simp only[Option.bind_some];have key:∀i,i<=d.Body.length->∃r:Int×Int,(∀m,d.Body.length-i<m->te list d m (i:Int)=some r)/\
    (∀m,d.Body.length-i<m->tj list d (hE d.Body [⟨d.dE,false⟩]) m (i:Int)=some r)/\0<=r.2:=by
   refine down d.Body.length ⟨(0,0),λm hm=>?_,λm hm=>?_,by decide⟩ ?_
   .obtain⟨m,rfl⟩:∃j,m=j+1:=⟨m-1,by omega⟩
    simp only[te,Ak];rw[fh (Nat.le_refl _)];rfl
   .obtain⟨m,rfl⟩:∃j,m=j+1:=⟨m-1,by omega⟩
    simp only[tj,Az];rw[fh (Nat.le_refl _)];rfl
   .rintro i an ⟨r,ei,bp,dk⟩;obtain⟨hz,gw,iR,iS,qA⟩:=aGh d ae au i an;obtain⟨v,v1,v2,v3⟩:=aGb list hl d i an aN (aj.2.2 _ (List.getElem_mem an)) (so d i) hz ⟨gw,iR⟩ iS;have hg:bF (hE d.Body [⟨d.dE,false⟩]) (i:Int)=some (so d i):=by
     unfold bF;rw[if_pos (by omega)];exact qA
    by_cases aT:v=0
    .subst aT;refine⟨r,λm hm=>?_,λm hm=>?_,dk⟩
     .obtain⟨m,rfl⟩:∃j,m=j+1:=⟨m-1,by omega⟩
      simp only[te,Ak];rw[fX an,v1,fO i _ an (by omega),<-ei m (by omega)];rfl
     .obtain⟨m,rfl⟩:∃j,m=j+1:=⟨m-1,by omega⟩
      simp only[tj,Az];rw[fX an,gN _ i an,hg];simp only[cond_true,Option.bind_some,v2];rw[fO i _ an (by omega),<-bp m (by omega)];rfl
    .have I0:decide (0<v)=true:=decide_eq_true (by omega);have Gv:(v !=0)=true:=by simpa using aT
     refine⟨((i:Int),v),λm hm=>?_,λm hm=>?_,v3⟩
     .obtain⟨m,rfl⟩:∃j,m=j+1:=⟨m-1,by omega⟩
      simp only[te,Ak];rw[fX an,v1];simp only[cond_true,Option.bind_some,I0]
     .obtain⟨m,rfl⟩:∃j,m=j+1:=⟨m-1,by omega⟩
      simp only[tj,Az];rw[fX an,gN _ i an,hg];simp only[cond_true,Option.bind_some,v2,Gv]
  obtain⟨r,ei,bp,dk⟩:=key 0 (Nat.zero_le _);refine⟨r,ij (d.Body.length+1) λm hm=>ei m (by omega),ij (d.Body.length+1) λm hm=>bp m (by omega),dk,λ_=>trivial⟩
def sq (d:bs):Bool:=decide (0<=d.dE)&&decide (d.dE<=3)
def yw (list:List bs):Bool:=gn (λi=>sq (list.getD i ⟨[],0,[]⟩)) list.length
theorem aGj {list:List bs} (h:yw list=true) (i:Nat) (an:i<list.length):0<=list[i].dE/\list[i].dE<=3:=by
 have:=tz.1 h i an;have e:list.getD i ⟨[],0,[]⟩=list[i]:=by simp[List.getD,an]
 rw[e]at this;simpa [sq]using this
theorem aGk (list:List bs) (hl:list.length<=1048576):D8 list=some (yw list):=by
 unfold D8 Ji Jh;rw[tB (n:=list.length) (λi=> !sq (list.getD i ⟨[],0,[]⟩))]
 .simp only[Option.bind_some,tA,Bool.not_not];rfl
 .intro m;simp only[xK,D7];rw[fh (Nat.le_refl _)];rfl
 .intro i an m;simp only[xK,D7];rw[fX an,nB _ i ⟨[],0,[]⟩ an,fO i _ an (by omega)];simp only[cond_true,Option.bind_some,Jg,jj];rfl
def BM (list:List bs):Prop:=list.length<=1048576/\∀d∈list,Tn d
end Go.eU
