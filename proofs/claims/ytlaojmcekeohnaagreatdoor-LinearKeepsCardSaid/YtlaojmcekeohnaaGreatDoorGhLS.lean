import Derived.Test.YtlaojmcekeohnaaGreatDoorGhLW
namespace Go.Proofs.YtlaojmcekeohnaaGreatDoor.Gh
open Go
set_option linter.unusedVariables false
set_option linter.unusedSimpArgs false
section
variable {H:Type} {enc:TypeId×Value→H}
theorem open_struct {P:Program} {W:World} {base:Nat} {t:TypeId} {fs:Array Field} {v:Value} {d:DataW H} {ps:List MemPlace} {ks:List Kd} (ht:P.underlying t=some (.struct fs)) (hk:leafs P 8 t=some ks) (hc:P.cellsOf t=ks.length)
    (hv:Value.okWide P W .any base t v) (h:DataW.Trod enc P W 0 (fun _=>true) true t v d ps):∃ cs,v= .agg ⟨cs⟩∧Row ks cs:=by
  obtain ⟨fuel,h⟩:=h
  simp only [Value.okWide,ht] at hv
  obtain ⟨⟨cs⟩,rfl,_,_⟩:=hv
  exact ⟨cs,rfl,row_of 8 t ks fuel _ _ hk hc h⟩
end
theorem vs_self {M:Map}:∀ {cs:List Value},Self cs→Vs M cs cs
  | [],_=>trivial
  | x::xs,h=>⟨h x (by simp) M,vs_self fun u hu=>h u (by simp [hu])⟩
theorem V_self {M:Map} {cs:List Value} (h:Self cs):V M (.agg ⟨cs⟩) (.agg ⟨cs⟩):=V_agg.2 ⟨⟨cs⟩,rfl,vs_self h⟩
theorem app_mod {A G:GS} {isz ib:Nat} {s x:Value} {n m:Nat} {cs ds:List Value} (hi:isz≠0) (hb:ib≠0) (hA:Ext A G) (hs:OwnL A.nx G isz s n cs) (hx:SlIs G isz x m ds) (ho:ds.all one=true) (hsz:(2*(n+m)+1000)*ib≤2 ^ 48) :
    ∃ v' G',appK isz ib s x G=some (v',G')∧Ext A G' ∧OwnL A.nx G' isz v' (n+m) (cs++ds)∧G.nx≤G'.nx∧∀ g,g<G.nx→(∀ a n' c',s= .slice (some a) n' c' →a.block≠g)→G'.obj g=G.obj g:=by
  have hel:=elems_of hx
  obtain ⟨a,c,rfl⟩:=hx.len
  unfold appK
  rw [if_neg (by omega)]
  simp only [hel,ho,Bool.not_true,Bool.false_eq_true,if_false]
  by_cases hm:m=0
  · subst hm
    have hd:ds=[]:=List.eq_nil_of_length_eq_zero (by simpa using hx.1)
    subst hd
    rcases hs.2 with ⟨rfl,rfl⟩ | ⟨b,op,rfl,h2,h3,h4⟩
    · exact ⟨.slice none 0 0,G,by simp,hA,by simpa using hs,Nat.le_refl _,fun _ _ _=>rfl⟩
    · exact ⟨.slice (some ⟨b,0,none⟩) n n,G,by simp,hA,by simpa using hs,Nat.le_refl _,fun _ _ _=>rfl⟩
  · have hlen:(cs++ds).length=(n+m)*isz:=by simp [hs.1,hx.1,Nat.add_mul]
    rcases hs.2 with ⟨rfl,rfl⟩ | ⟨b,op,rfl,h2,h3,h4⟩
    · have hc:cs=[]:=List.eq_nil_of_length_eq_zero (by simpa using hs.1)
      subst hc
      refine ⟨_,_,by simp only [hm,if_false]; rw [if_pos (by simpa using hsz)],hA.push _,⟨hlen,.inr ⟨G.nx,true,by simp,hA.nx,by simp,by simp⟩⟩,by simp,fun g hg _=>by rw [obj_push,if_neg (by omega)]⟩
    · have hr:rdN G b 0 (n*isz)=some cs:=by
        have:=elems_of hs.reads
        exact this
      have hbn:b≠G.nx:=by omega
      simp only [hm,if_false,h4]
      rw [if_neg (by omega)]
      simp only [Nat.zero_add,hr,if_pos hsz]
      have hcl:n*isz=cs.length:=hs.1.symm
      cases op with
      | true =>
        simp only [hcl,decide_true,Bool.and_self,if_true]
        exact ⟨_,_,rfl,(hA.put h2 _).push _,⟨by rw [hlen],.inr ⟨G.nx,true,rfl,hA.nx,by simp,by simp⟩⟩,by simp,fun g hg hn=>by rw [obj_push,if_neg (by simp; omega),obj_put,if_neg (fun e=>hn _ _ _ rfl e.symm)]⟩
      | false =>
        simp only [Bool.false_and,Bool.false_eq_true,if_false]
        exact ⟨_,_,rfl,hA.push _,⟨by rw [hlen],.inr ⟨G.nx,true,rfl,hA.nx,by simp,by simp⟩⟩,by simp,fun g hg _=>by rw [obj_push,if_neg (by omega)]⟩
end Go.Proofs.YtlaojmcekeohnaaGreatDoor.Gh
