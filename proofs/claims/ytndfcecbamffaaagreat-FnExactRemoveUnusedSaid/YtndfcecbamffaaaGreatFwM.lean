/- Part of a proof that a law returns true for every input. No condition. -/
import Derived.Test.YtndfcecbamffaaaGreatFwI
import Derived.Sort.Grow
import Derived.Lib.SlicesCompact
import Derived.Below
namespace Go.cW
open List Option Go.IntKind Nat Or
open Go.Sort
section
variable {α:Type} {e:α->j} {enc:α->Value}
def One (e:α->j) (enc:α->Value):Prop:=(∀x,(e x).wd=1)/\∀(w:World) (F:Nat->Prop) (x:α) (cs:abL) (S:Nat->Prop),ai w F (e x) cs S↔cs=[enc x]
theorem KS (he:One e enc) {w:World} {F:Nat->Prop}:∀(xs:List α) (cs:abL) (S:Nat->Prop),aS w F (xs.map e) cs S->cs=xs.map enc:=by
 intro xs;induction xs with
 |nil=>intro cs S h;simpa [aS]using h
 |cons x xs ih=>
  intro cs S h;simp only[map_cons,aS]at h;obtain⟨bD,bH,bJ,cS,rfl,R,U,_⟩:=h;rw[(he.2 _ _ _ _ _).1 R,ih _ _ U];rfl
theorem SS (he:One e enc) {w:World} {F:Nat->Prop}:∀(xs:List α),aS w F (xs.map e) (xs.map enc) (λ_=>False):=by
 intro xs;induction xs with
 |nil=>simp[aS]
 |cons x xs ih=>
  simp only[map_cons,aS];exact⟨[enc x],xs.map enc,_,_,rfl,(he.2 _ _ _ _ _).2 rfl,ih,λ_ h=>h,λ_ h=>h,λ_ h=>h.elim⟩
theorem KT (w:World) (os:Array Obj) {c:Nat} (h:c<w.heap.size):(Sort.grow w os).heap[c]? =w.heap[c]? :=by
 simp only[Sort.grow,Array.getElem?_append,h,if_true]
variable [Inhabited α]
theorem KU (he:One e enc) {w:World} {F X:Nat->Prop} {S:Nat->Nat->Prop} {s:ah} {ao:Nat->Value} (h:bu w F X F S s ao w)
  {b cap:Nat} {cur:Array Value} {i_:TypeId} {fr:Nat×Nat} {xs bO zs:List α} (bg:S 0 b) (J:w.heap[b]? =some (.cells cur i_ fr)) (qd:j6 fr cur.size) (Hy:cur.size=cap) (nW:xs.length<=cap) (hm:cap<=maxLen)
  (hl:(bO++zs).length=xs.length) {n:Nat} {os:Array Obj} {ax:World} (hw:ax=Sort.grow (putRow enc (Sort.ahead w n) b 0 (bO++zs).toArray) os) {aq:ah} {gT:Nat->Value} {t:Nat}
  (aL:aq t= .ad 1 (bO.map e)) (ay:gT t= .slice (some ⟨b,0,none⟩) bO.length cap) (br:∀u,u≠t->aq u= .hole\/(aq u= .tuple []/\gT u= .tuple #[])):
  bu w F X F (λu c=>u=t/\c=b) aq gT ax:=by
 have SU:=h.dD 0 b bg;have cT:(putRow enc (Sort.ahead w n) b 0 (bO++zs).toArray).heap.size=w.heap.size:=size_putRow ..;have KV:w.heap.size<=ax.heap.size:=by rw[hw,size_grow,cT];omega
 have lE:∀c,c<w.heap.size->c≠b->ax.heap[c]? =w.heap[c]? :=by
  intro c aj cO;rw[hw,KT _ _ (by rw[cT];exact aj)];simp only[putRow,mapBlock,Array.getElem?_modify,if_neg (Ne.symm cO)];rfl
 have wG:ax.heap[b]? =some (.cells (putCells enc 0 (bO++zs).toArray cur) i_ fr):=by
  rw[hw,KT _ _ (by rw[cT];exact SU)];simp only[putRow,mapBlock,Array.getElem?_modify,if_true];rw[show(Sort.ahead w n).heap=w.heap from rfl,J];rfl
 have hV:(putCells enc 0 (bO++zs).toArray cur).toList.take bO.length=bO.map enc:=by
  apply ext_getElem?;intro k;simp only[putCells,getElem?_take,Array.getElem?_toList,Array.getElem?_mapIdx,getElem?_map];have hlen:bO.length+zs.length=xs.length:=by simpa using hl
  by_cases ak:k<bO.length
  .rw[if_pos ak,Array.getElem?_eq_getElem (by omega),getElem?_eq_getElem ak];simp only[map_some];rw[if_pos (by simp;omega)];simp only[Nat.sub_zero];rw[getElem!_pos _ k (by simp;omega)];simp[ak]
  .rw[if_neg ak,getElem?_eq_none (by omega)];rfl
 exact {
  fR:=λ_ h=>h
  gl:=λb aY=>.inl aY
  eu:=λc aj=>Nat.lt_of_lt_of_le (h.eu c aj) KV
  dD:=λu c aj=>by rw[aj.2];omega
  eW:=λu c aj aY=>by rw[aj.2]at aY;exact h.eW 0 b bg aY
  ev:=λu x c cO hu ag=>cO (hu.1.trans ag.1.symm)
  cN:=λu c aj=>by rw[aj.2];exact h.cN 0 b bg
  cK:=λu=>by
   by_cases hu:u=t
   .subst hu;rw[aL,ay];refine(aB.b4 rfl).2 ⟨rfl,?_⟩;rw[ai];right;refine⟨b,cap,_,i_,fr,λ_=>False,?_,⟨rfl,rfl⟩,wG,?_,?_,hm,?_,?_,?_,λ_ h=>h.elim,λh=>h⟩
    .simp[bR,gS]
    .simpa [putCells]using qd
    .simp at hl⊢;omega
    .simpa [putCells]using Hy
    .intro d ae;obtain⟨x,_,rfl⟩:=mem_map.1 ae;exact he.1 x
    .rw[length_map,Nat.mul_one,hV];exact SS he bO
   .rcases br u hu with R|⟨R,U⟩
    .rw[R,aB];trivial
    .rw[R,U];refine(aB.b4 rfl).2 ⟨⟨#[],rfl,rfl,λk d x ae=>by simp at ae⟩,?_⟩;rw[ai,aS];rfl
  old:=λc aj ix=>lE c aj (λqD=>by
   rcases h.cN 0 b bg with R|R
   .exact ix (qD▸R)
   .omega)
  size:=KV
  os:=by rw[hw];rfl
  tape:=by rw[hw];rfl
  output:=by rw[hw];exact⟨rfl,λ_=>le_add_right _ _⟩
  fL:=h.fL}
theorem KW {w:World} {b:Nat} {cur:Array Value} {i_:TypeId} {fr:Nat×Nat} {xs:List α} (J:w.heap[b]? =some (.cells cur i_ fr)) (qd:j6 fr cur.size)
  (hl:xs.length<=cur.size) (aj:cur.toList.take xs.length=xs.map enc):Holds enc w b 0 xs.toArray:=by
 intro au bN;have KX:au<xs.length:=by simpa using bN
 constructor
 .have R:(cur.toList.take xs.length)[au]? =some (enc xs[au]):=by rw[aj,getElem?_map,getElem?_eq_getElem KX];rfl
  rw[getElem?_take,if_pos KX]at R;simp only[World.cell?,J,Nat.zero_add];rw[getElem!_pos _ au bN];simpa using R
 .simp only[World.frozen?,J,Nat.zero_add];have:=qd au (by omega);simpa using this
theorem KY {w:World} {F X:Nat->Prop} {S:Nat->Nat->Prop} {s:ah} {ao:Nat->Value} (h:bu w F X F S s ao w) {aq:ah} {gT:Nat->Value}
  (br:∀u,aq u= .hole\/(aq u= .tuple []/\gT u= .tuple #[])\/(aq u= .ad 1 []/\∃a,gT u= .slice a 0 0)):bu w F X F (λ_ _=>False) aq gT w where
 fR:=λ_ h=>h
 gl:=λ_ aY=>.inl aY
 eu:=h.eu
 dD:=λ_ _ h=>h.elim
 eW:=λ_ _ h=>h.elim
 ev:=λ_ _ _ _ h=>h.elim
 cN:=λ_ _ h=>h.elim
 cK:=λu=>by
  rcases br u with R|⟨R,U⟩|⟨R,a,U⟩
  .rw[R,aB];trivial
  .rw[R,U];refine(aB.b4 rfl).2 ⟨⟨#[],rfl,rfl,λk d x ae=>by simp at ae⟩,?_⟩;rw[ai,aS];rfl
  .rw[R,U];refine(aB.b4 rfl).2 ⟨rfl,?_⟩;rw[ai];exact .inl ⟨rfl,a,by simp[bR,gS]⟩
 old:=h.old
 size:=h.size
 os:=h.os
 tape:=h.tape
 output:=h.output
 fL:=h.fL
theorem KZ {w:World} {F:Nat->Prop} {s:ah} {ao:Nat->Value} {xs:abN} {v:Value} {S:Nat->Prop} (h:aB w F s ao (.ad 1 xs) v S):
  (xs=[]/\∃a,v= .slice a 0 0)\/∃b cap cur i_ fr aF,v= .slice (some ⟨b,0,none⟩) xs.length cap/\S b/\w.heap[b]? =some (.cells cur i_ fr)/\j6 fr cur.size/\
     xs.length<=cap/\cap<=maxLen/\cur.size=cap/\aS w F xs (cur.toList.take xs.length) aF:=by
 obtain⟨R,U⟩:=(aB.b4 rfl).1 h;have ay:bR v=[v]:=by
  cases v<;>first|rfl|(cases R)
 rw[ay,ai]at U;rcases U with⟨aA,a,aU⟩|⟨b,cap,cur,i_,fr,aF,aA,aU,bt,b5,cd,dQ,gQ,gx,iN,_⟩
 .left;exact⟨aA,a,by simpa using aU⟩
 .right;exact⟨b,cap,cur,i_,fr,aF,by simpa using aA,aU,bt,b5,cd,dQ,by simpa using gQ,by simpa using iN⟩
theorem bx.SV {C:bI} {f:FuncId} (he:One e enc) (sH:∀args w,(callFunc f args).run C.P w= .ok (.enter f args) w) (xs bO:List α) (hl:bO.length=xs.length)
  (bq:∀a w,Calls C.P f #[.slice a 0 0] w λex ax=>ex= .returned (.tuple #[])/\ax=w)
  (R:∀(w:World) (b cap:Nat),Holds enc w b 0 xs.toArray->b<w.heap.size->Calls C.P f #[.slice (some ⟨b,0,none⟩) xs.length cap] w λex ax=>
   ex= .returned (.tuple #[])/\∃n os,ax=Sort.grow (putRow enc (Sort.ahead w n) b 0 bO.toArray) os):
  bx C f [.ad 1 (xs.map e)] (.tuple []) [.ad 1 (bO.map e)]:=by
 intro w F X S vs qL aN;obtain⟨v,rfl⟩:∃v,vs=[v]:=by
  match vs,qL with
  |[v],_=>exact⟨v,rfl⟩
 rcases KZ (aN.cK 0)with⟨ag,a,ay⟩|⟨b,cap,cur,i_,fr,aF,ay,bg,J,qd,ux,hm,ga,eJ⟩
 .have ay:v= .slice a 0 0:=ay;have ag:xs=[]:=by simpa using ag
  subst ay ag;have bh:bO=[]:=length_eq_zero_iff.1 hl;subst bh;refine .inl ⟨sH _ _,(bq a w).mono ?_⟩;rintro ex ax ⟨rfl,rfl⟩;refine⟨_,rfl,F,_,KY aN λu=>?_⟩;rcases u with _|_|u
  .exact .inr (.inl ⟨rfl,rfl⟩)
  .exact .inr (.inr ⟨rfl,a,rfl⟩)
  .exact .inl rfl
 .have ay:v= .slice (some ⟨b,0,none⟩) xs.length cap:=by rw[length_map]at ay;exact ay
  subst ay;simp only[length_map]at ux eJ;have hB:=KW J qd (by omega) (KS he _ _ _ eJ);refine .inl ⟨sH _ _,(R w b cap hB (aN.dD 0 b bg)).mono ?_⟩;rintro ex ax ⟨rfl,n,os,hw⟩;refine⟨_,rfl,F,_,KU (zs:=[]) (t:=1) he aN bg J qd ga ux hm (by simpa using hl) (by simpa using hw) rfl (by show Value.slice _ _ _=_;rw[hl]) ?_⟩;intro u hu;rcases u with _|_|u
  .exact .inr ⟨rfl,rfl⟩
  .exact(hu rfl).elim
  .exact .inl rfl
theorem bx.SW {C:bI} {f:FuncId} (he:One e enc) (sH:∀args w,(callFunc f args).run C.P w= .ok (.enter f args) w) (xs bO zs:List α) (hl:(bO++zs).length=xs.length)
  (bq:∀a w,Calls C.P f #[.slice a 0 0] w λex ax=>ex= .returned (.slice a 0 0)/\ax=w)
  (R:∀(w:World) (b cap:Nat),Holds enc w b 0 xs.toArray->b<w.heap.size->xs.length<=cap->cap<=maxLen->Calls C.P f #[.slice (some ⟨b,0,none⟩) xs.length cap] w λex ax=>
   ex= .returned (.slice (some ⟨b,0,none⟩) bO.length cap)/\∃n os,ax=Sort.grow (putRow enc (Sort.ahead w n) b 0 (bO++zs).toArray) os):
  bx C f [.ad 1 (xs.map e)] (.ad 1 (bO.map e)) [.hole]:=by
 intro w F X S vs qL aN;obtain⟨v,rfl⟩:∃v,vs=[v]:=by
  match vs,qL with
  |[v],_=>exact⟨v,rfl⟩
 rcases KZ (aN.cK 0)with⟨ag,a,ay⟩|⟨b,cap,cur,i_,fr,aF,ay,bg,J,qd,ux,hm,ga,eJ⟩
 .have ay:v= .slice a 0 0:=ay;have ag:xs=[]:=by simpa using ag
  subst ay ag;have bh:bO=[]:=by
   have bA:bO++zs=[]:=length_eq_zero_iff.1 hl;exact(append_eq_nil_iff.1 bA).1
  subst bh;refine .inl ⟨sH _ _,(bq a w).mono ?_⟩;rintro ex ax ⟨rfl,rfl⟩;refine⟨_,rfl,F,_,KY aN λu=>?_⟩;rcases u with _|_|u
  .exact .inr (.inr ⟨rfl,a,rfl⟩)
  .exact .inl rfl
  .exact .inl rfl
 .have ay:v= .slice (some ⟨b,0,none⟩) xs.length cap:=by rw[length_map]at ay;exact ay
  subst ay;simp only[length_map]at ux eJ;have hB:=KW J qd (by omega) (KS he _ _ _ eJ);refine .inl ⟨sH _ _,(R w b cap hB (aN.dD 0 b bg) ux hm).mono ?_⟩;rintro ex ax ⟨rfl,n,os,hw⟩;refine⟨_,rfl,F,_,KU (t:=0) he aN bg J qd ga ux hm hl hw rfl rfl ?_⟩;intro u hu;rcases u with _|_|u
  .exact(hu rfl).elim
  .exact .inl rfl
  .exact .inl rfl
end
theorem K0 {α:Type} [DecidableEq α]:∀(p:Option α) (l:List α),(j5 p l).length<=l.length
 |_,[]=>Nat.le_refl _
 |p,x::r=>by
  have:=K0 (some x) r;simp only[j5];split<;>simp only[length_cons]<;>omega
theorem K1 {α:Type} [Inhabited α] [DecidableEq α] (zs:List α):Lib.compact zs=j5 none zs:=by
 have key:∀n i,i+n=zs.length->((range' i n).filter (Lib.keeps zs.toArray)).map (zs.toArray[·]!)=j5 (if i=0 then none else some zs.toArray[i-1]!) (zs.drop i):=by
  intro n;induction n with
  |zero=>
   intro i aw;rw[drop_of_length_le (by omega)];rfl
  |succ n ih=>
   intro i aw;have cB:i<zs.length:=by omega
   have ag:zs.toArray[i]! =zs[i]:=by rw[getElem!_pos _ i (by simpa using cB)];simp
   rw[range'_succ,drop_eq_getElem_cons cB,filter_cons];have oY:=ih (i+1) (by omega);rw[if_neg (by omega),Nat.add_sub_cancel,ag]at oY;simp only[j5];by_cases bq:i=0
   .subst bq;rw[if_pos (by simp[Lib.keeps]),map_cons,oY,ag];simp
   .rw[if_neg bq];by_cases he:zs.toArray[i-1]! =zs[i]
    .rw[if_neg (by simp[Lib.keeps,bq,ag,he]),oY,if_pos (by rw[he])]
    .rw[if_pos (by simp only[Lib.keeps,ag];simp only[decide_eq_true_eq];exact .inr (λe=>he e.symm)),map_cons,oY,ag,if_neg (by simpa using he)]
 have:=key zs.length 0 (by omega);rw[if_pos rfl,drop_zero]at this;rw[<-this,Lib.compact,Lib.compactUpTo,range_eq_range']
theorem bx.below {C:bI} {f:FuncId} {as:abN} {r:j} {v:Value} (ae:GU=false) (sH:∀args w,(callFunc f args).run C.P w= .ok (.enter f args) w) (aL:r.tree=true) (lG:c0 r v) (eJ:∀w F,ai w F r (bR v) (λ_=>False))
  (h:∀(w:World) (F X:Nat->Prop) (S:Nat->Nat->Prop) (vs:abL),vs.length=as.length->bu w F X F S (fc as) (fU vs) w->Calls C.P f vs.toArray w λex ax=>ex= .returned v/\RowKit.Below w.heap.size w ax):bx C f as r []:=by
 intro w F X S vs hl aN;refine .inl ⟨sH _ _,(h w F X S vs hl aN).mono ?_⟩;rintro ex ax ⟨rfl,J⟩;refine⟨_,rfl,F,λ_ _=>False,?_⟩;exact {
  fR:=λ_ h=>h
  gl:=λ_ aY=>.inl aY
  eu:=λc aj=>Nat.lt_of_lt_of_le (aN.eu c aj) J.size
  dD:=λ_ _ h=>h.elim
  eW:=λ_ _ h=>h.elim
  ev:=λ_ _ _ _ h=>h.elim
  cN:=λ_ _ h=>h.elim
  cK:=λu=>by
   rcases u with _|u
   .exact(aB.b4 aL).2 ⟨lG,eJ _ _⟩
   .show aB _ _ _ _ .hole _ _;rw[aB];trivial
  old:=λc aj _=>J.block c aj
  size:=J.size
  os:=J.os
  tape:=J.tape
  output:=⟨J.output,λd=>by rw[ae]at d;cases d⟩
  fL:=aN.fL}
end Go.cW
