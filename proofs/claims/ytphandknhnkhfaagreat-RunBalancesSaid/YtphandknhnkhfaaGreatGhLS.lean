import Derived.Test.YtphandknhnkhfaaGreatGhLW
namespace Go.Proofs.YtphandknhnkhfaaGreat.Gh
open Go
set_option linter.unusedVariables false
set_option linter.unusedSimpArgs false
section
variable {H:Type} {enc:TypeId×Value→H}
end
theorem IP {A G:GS} {gu ib:Nat} {s x:Value} {n m:Nat} {cs ds:List Value} (hi:gu≠0) (hb:ib≠0) (hA:Ext A G) (hs:mv A.nx G gu s n cs) (hx:mq G gu x m ds) (ho:ds.all one=true) (cQ:(2*(n+m)+1000)*ib≤2 ^ 48) :
    ∃ v' G',oz gu ib s x G=some (v',G')∧Ext A G' ∧mv A.nx G' gu v' (n+m) (cs++ds)∧G.nx≤G'.nx∧∀ g,g<G.nx→(∀ a n' c',s= .slice (some a) n' c' →a.block≠g)→G'.obj g=G.obj g:=by
  have qk:=vl hx
  obtain ⟨a,c,rfl⟩:=hx.len
  unfold oz
  rw [if_neg (by omega)]
  simp only [qk,ho,Bool.not_true,Bool.false_eq_true,if_false]
  by_cases hm:m=0
  · subst hm
    have hd:ds=[]:=List.eq_nil_of_length_eq_zero (by simpa using hx.1)
    subst hd
    rcases hs.2 with ⟨rfl,rfl⟩ | ⟨b,op,rfl,h2,h3,h4⟩
    · exact ⟨.slice none 0 0,G,by simp,hA,by simpa using hs,Nat.le_refl _,fun _ _ _=>rfl⟩
    · exact ⟨.slice (some ⟨b,0,none⟩) n n,G,by simp,hA,by simpa using hs,Nat.le_refl _,fun _ _ _=>rfl⟩
  · have hlen:(cs++ds).length=(n+m)*gu:=by simp [hs.1,hx.1,Nat.add_mul]
    rcases hs.2 with ⟨rfl,rfl⟩ | ⟨b,op,rfl,h2,h3,h4⟩
    · have hc:cs=[]:=List.eq_nil_of_length_eq_zero (by simpa using hs.1)
      subst hc
      refine ⟨_,_,by simp only [hm,if_false]; rw [if_pos (by simpa using cQ)],hA.push _,⟨hlen,.inr ⟨G.nx,true,by simp,hA.nx,by simp,by simp⟩⟩,by simp,fun g hg _=>by rw [jR,if_neg (by omega)]⟩
    · have hr:fE G b 0 (n*gu)=some cs:=by
        have:=vl hs.reads
        exact this
      have iu:b≠G.nx:=by omega
      simp only [hm,if_false,h4]
      rw [if_neg (by omega)]
      simp only [Nat.zero_add,hr,if_pos cQ]
      have uO:n*gu=cs.length:=hs.1.symm
      cases op with
      | true =>
        simp only [uO,decide_true,Bool.and_self,if_true]
        exact ⟨_,_,rfl,(hA.put h2 _).push _,⟨by rw [hlen],.inr ⟨G.nx,true,rfl,hA.nx,by simp,by simp⟩⟩,by simp,fun g hg hn=>by rw [jR,if_neg (by simp; omega),aT,if_neg (fun e=>hn _ _ _ rfl e.symm)]⟩
      | false =>
        simp only [Bool.false_and,Bool.false_eq_true,if_false]
        exact ⟨_,_,rfl,hA.push _,⟨by rw [hlen],.inr ⟨G.nx,true,rfl,hA.nx,by simp,by simp⟩⟩,by simp,fun g hg _=>by rw [jR,if_neg (by omega)]⟩
end Go.Proofs.YtphandknhnkhfaaGreat.Gh
