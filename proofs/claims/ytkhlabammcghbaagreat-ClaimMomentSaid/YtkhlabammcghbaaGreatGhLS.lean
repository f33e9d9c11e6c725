import Derived.Test.YtkhlabammcghbaaGreatGhLW
namespace Go.Proofs.YtkhlabammcghbaaGreat.Gh
open Go
set_option linter.unusedVariables false
set_option linter.unusedSimpArgs false
section
variable {H:Type} {enc:TypeId×Value→H}
end
theorem JS {A G:GS} {fV ib:Nat} {s x:Value} {n m:Nat} {cs ds:List Value} (hi:fV≠0) (hb:ib≠0) (hA:Ext A G) (hs:mg A.nx G fV s n cs) (hx:mf G fV x m ds) (ho:ds.all one=true) (cm:(2*(n+m)+1000)*ib≤2 ^ 48) :
    ∃ v' G',j9 fV ib s x G=some (v',G')∧Ext A G' ∧mg A.nx G' fV v' (n+m) (cs++ds)∧G.nx≤G'.nx∧∀ g,g<G.nx→(∀ a n' c',s= .slice (some a) n' c' →a.block≠g)→G'.obj g=G.obj g:=by
  have uY:=zg hx
  obtain ⟨a,c,rfl⟩:=hx.len
  unfold j9
  rw [if_neg (by omega)]
  simp only [uY,ho,Bool.not_true,Bool.false_eq_true,if_false]
  by_cases hm:m=0
  · subst hm
    have hd:ds=[]:=List.eq_nil_of_length_eq_zero (by simpa using hx.1)
    subst hd
    rcases hs.2 with ⟨rfl,rfl⟩ | ⟨b,op,rfl,h2,h3,h4⟩
    · exact ⟨.slice none 0 0,G,by simp,hA,by simpa using hs,Nat.le_refl _,fun _ _ _=>rfl⟩
    · exact ⟨.slice (some ⟨b,0,none⟩) n n,G,by simp,hA,by simpa using hs,Nat.le_refl _,fun _ _ _=>rfl⟩
  · have hlen:(cs++ds).length=(n+m)*fV:=by simp [hs.1,hx.1,Nat.add_mul]
    rcases hs.2 with ⟨rfl,rfl⟩ | ⟨b,op,rfl,h2,h3,h4⟩
    · have hc:cs=[]:=List.eq_nil_of_length_eq_zero (by simpa using hs.1)
      subst hc
      refine ⟨_,_,by simp only [hm,if_false]; rw [if_pos (by simpa using cm)],hA.push _,⟨hlen,.inr ⟨G.nx,true,by simp,hA.nx,by simp,by simp⟩⟩,by simp,fun g hg _=>by rw [kU,if_neg (by omega)]⟩
    · have hr:fC G b 0 (n*fV)=some cs:=by
        have:=zg hs.reads
        exact this
      have iy:b≠G.nx:=by omega
      simp only [hm,if_false,h4]
      rw [if_neg (by omega)]
      simp only [Nat.zero_add,hr,if_pos cm]
      have jW:n*fV=cs.length:=hs.1.symm
      cases op with
      | true =>
        simp only [jW,decide_true,Bool.and_self,if_true]
        exact ⟨_,_,rfl,(hA.put h2 _).push _,⟨by rw [hlen],.inr ⟨G.nx,true,rfl,hA.nx,by simp,by simp⟩⟩,by simp,fun g hg hn=>by rw [kU,if_neg (by simp; omega),cM,if_neg (fun e=>hn _ _ _ rfl e.symm)]⟩
      | false =>
        simp only [Bool.false_and,Bool.false_eq_true,if_false]
        exact ⟨_,_,rfl,hA.push _,⟨by rw [hlen],.inr ⟨G.nx,true,rfl,hA.nx,by simp,by simp⟩⟩,by simp,fun g hg _=>by rw [kU,if_neg (by omega)]⟩
end Go.Proofs.YtkhlabammcghbaaGreat.Gh
