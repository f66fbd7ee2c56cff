/- Part of a proof that a law returns true for every input. No condition. -/
import Derived.Test.YtlkabaochkgkdaaGreatDoorUH4
import Derived.Test.YtlkabaochkgkdaaGreatDoorUT
namespace Go.eU
open Go Go.c_
noncomputable def n_ (e:b_):Bool:=(decide (0<=e.Choice)&&decide (e.Choice<=199))&&((decide (0<=e.c8)&&decide (e.c8<=2))&&((decide (-1<=e.Second)&&decide (e.Second<=2))&&Gq e.Label))
theorem SZ (e:b_) (h:e.Label.length<=1048576):D0 e=some (n_ e)/\ET e=some (n_ e):=by
 obtain⟨ag,ah⟩:=aFF e.Label h;unfold D0 ET kS jj n_;rw[ag,ah];simp only[Option.bind_some];cases(decide (0<=e.Choice)&&decide (e.Choice<=199))<;>cases(decide (0<=e.c8)&&decide (e.c8<=2))<;>cases(decide (-1<=e.Second)&&decide (e.Second<=2))<;>exact⟨rfl,rfl⟩
theorem S0 {e:b_} (h:n_ e=true):(0<=e.Choice/\e.Choice<=199)/\(0<=e.c8/\e.c8<=2)/\(-1<=e.Second/\e.Second<=2):=by
 simp only[n_,Bool.and_eq_true,decide_eq_true_eq]at h;omega
noncomputable def BI (a:List b_):Bool:=decide (a.length<=60)&&a.all n_
theorem aFG (a:List b_) (hl:a.length<=1048576) (h:∀e∈a,e.Label.length<=1048576):D2 a=some (BI a)/\EV a=some (BI a):=by
 unfold D2 EV BI JE JD;rw[tB (n:=a.length) (l:=u9 a) (λi=> !n_ (a.getD i ⟨0,0,0,[]⟩)) (λm=>?_) (λi an m=>?_)]
 .simp only[Option.bind_some,tA,Bool.not_not];have aX:gn (λi=>n_ (a.getD i ⟨0,0,0,[]⟩)) a.length=a.all n_:=by
   rw[Bool.eq_iff_iff,tz,List.all_eq_true];constructor
   .intro q x aw;obtain⟨k,ay,rfl⟩:=List.mem_iff_getElem.1 aw;have:=q k ay;simpa [List.getD,ay]using this
   .intro q i an;have:=q _ (List.getElem_mem an);simpa [List.getD,an]using this
  rw[aX];have ae:cB (λn=>uS a n 0)=some (a.all n_):=by
   rw[sa (n:=a.length) (λi=>some ((a.drop i).all n_))]
   .simp
   .intro m;simp only[uS,D1];rw[fh (Nat.le_refl _)];simp
   .intro i an m ih;simp only[uS,D1];rw[fX an,gN _ i an,fO i _ an (by omega),ih,drop_cons _ i an];simp only[cond_true,Option.bind_some,List.all_cons];rw[(SZ _ (h _ (List.getElem_mem an))).1];simp only[Option.bind_some];cases n_ a[i]<;>simp
  rw[ae];by_cases S1:a.length<=60
  .rw[show decide ((60:Int)<(a.length:Int))=false from decide_eq_false (by omega),show decide ((a.length:Int)<=60)=true from decide_eq_true (by omega),show decide (a.length<=60)=true from decide_eq_true S1];simp
  .rw[show decide ((60:Int)<(a.length:Int))=true from decide_eq_true (by omega),show decide ((a.length:Int)<=60)=false from decide_eq_false (by omega),show decide (a.length<=60)=false from decide_eq_false S1];exact⟨rfl,rfl⟩
 .simp only[u9,EU];rw[fh (Nat.le_refl _)];rfl
 .simp only[u9,EU,JC];rw[fX an,gN _ i an,fO i _ an (by omega)];simp only[cond_true,Option.bind_some];rw[(SZ _ (h _ (List.getElem_mem an))).2];have e:a.getD i ⟨0,0,0,[]⟩=a[i]:=by simp[List.getD,an]
  rw[e];rfl
end Go.eU
