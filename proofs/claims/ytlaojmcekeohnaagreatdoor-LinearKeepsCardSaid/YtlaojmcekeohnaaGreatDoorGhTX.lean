import Derived.Test.YtlaojmcekeohnaaGreatDoorGhSD
namespace Go.Proofs.YtlaojmcekeohnaaGreatDoor.Gh
open Go
set_option linter.unusedVariables false
noncomputable section
def txtA:Nat:=105
def txtB:Nat:=109
def txtC:Nat:=115
def dgs (k:Nat):Nat→List UInt8:=Nat.rec (motive:=fun _=>Nat→List UInt8) (fun _=>[]) (fun _ ih n=>if Nat.blt n 10=true then [UInt8.ofNat (48+n)] else ih (n / 10)++[UInt8.ofNat (48+n % 10)]) k
theorem dgs_succ (k n:Nat):dgs (k+1) n=if n<10 then [UInt8.ofNat (48+n)] else dgs k (n / 10)++[UInt8.ofNat (48+n % 10)]:=by
  show (if Nat.blt n 10=true then _ else _)=_
  by_cases h:n<10
  · have:Nat.blt n 10=true:=Nat.ble_eq_true_of_le h
    rw [if_pos this,if_pos h]
  · have:¬ Nat.blt n 10=true:=fun e=>h (Nat.le_of_ble_eq_true e)
    rw [if_neg this,if_neg h]; rfl
def dgI (x:Int):List UInt8:=match x with
  | .ofNat n=>dgs 20 n
  | .negSucc n=>45::dgs 20 (n+1)
def inR (k:IntKind) (x:Int):Bool:=match k with
  | .u64=>decide (0≤x)&&decide (x<18446744073709551616)
  | .i64=>decide (-9223372036854775808≤x)&&decide (x<9223372036854775808)
  | _=>false
def txt1 (p:IntKind×UInt8) (v:Value):Option (List UInt8):=match v with
  | .int k x=>if (decide (k=p.1)&&inR p.1 x)=true then some (dgI x++[p.2]) else none
  | _=>none
def txtL (cs:List Value):IntKind×UInt8→IntKind×UInt8→Option (List UInt8) :=
  List.rec (motive:=fun _=>IntKind×UInt8→IntKind×UInt8→Option (List UInt8)) (fun _ _=>some []) (fun v _ ih p q=>match txt1 p v,ih q p with | some a,some b=>some (a++b) | _,_=>none) cs
theorem txtL_cons (v:Value) (cs:List Value) (p q:IntKind×UInt8):txtL (v::cs) p q=match txt1 p v,txtL cs q p with | some a,some b=>some (a++b) | _,_=>none:=rfl
abbrev TxK:=Nat×(IntKind×UInt8)×(IntKind×UInt8)
def txt (z:TxK) (vs:List Value) (G:GS):Option (Value×GS):=match vs with
  | [.slice _ 0 _]=>some (.string ⟨#[]⟩,G)
  | [.slice (some ⟨b,o,none⟩) (n+1) _]=>if (tabs G&&Nat.ble n 1000000)=true then (match rdN G b o ((n+1)*z.1) with
      | some l=>(match txtL l z.2.1 z.2.2 with
        | some s=>some (.string ⟨s.toArray⟩,G)
        | none=>none)
      | none=>none) else none
  | _=>none
def kA:TxK:=(1,(.u64,44),(.u64,44))
def kB:TxK:=(2,(.u64,32),(.i64,44))
def kC:TxK:=(1,(.i64,44),(.i64,44))
def TabAt (w:World):Prop:=(∃ e f,w.heap[tabB]? =some (.cells tabV.toArray e f))∧∃ e f,w.heap[powB]? =some (.cells powV.toArray e f)
theorem Rel.tab {G:GS} {M:Map} {w:World} {B:Nat} (hR:Rel G M w B) (h:tabs G=true):TabAt w:=by
  unfold tabs at h
  split at h
  · rename_i o p ho hp
    simp only [Bool.and_eq_true] at h
    have h1:=Nat.eq_of_beq_eq_true h.1
    have h2:=Nat.eq_of_beq_eq_true h.2
    obtain ⟨k1,_,e1,f1,j1⟩:=hR.gl 0 o ho (by rw [h1]; unfold tabM; omega)
    obtain ⟨k2,_,e2,f2,j2⟩:=hR.gl 1 p hp (by rw [h2]; unfold powM; omega)
    have hne:tabM≠powM:=by decide
    rcases k1 with ⟨_,c1⟩ | ⟨m1,_⟩
    · rcases k2 with ⟨m2,_⟩ | ⟨_,c2⟩
      · exact absurd (m2.symm.trans h2) hne
      · rw [h1,c1] at j1
        rw [h2,c2] at j2
        exact ⟨⟨e1,f1,j1⟩,e2,f2,j2⟩
    · exact absurd (h1.symm.trans m1) hne
  · cases h
def TxtOk (P:Program) (f:Nat) (z:TxK):Prop :=
  ∀ fn,P.funcs[f]? =some fn→(fn.name == "runtime.NumGoroutine")=false∧fn.body.isSome=true ∧
    (∀ (w:World) (p:Option Addr) (cap:Nat),Calls P f #[.slice p 0 cap] w fun e w' =>e= .returned (.string ⟨#[]⟩)∧Go.RowKit.Below w.heap.size w w') ∧
    ∀ (w:World) (blk off cap n:Nat) (cs:List Value) (s:List UInt8),TabAt w→n<1000001→cs.length=(n+1)*z.1→(∀ (j:Nat) (v:Value),cs[j]? =some v→w.cell? ⟨blk,off+j,none⟩=some v)→txtL cs z.2.1 z.2.2=some s →
      Calls P f #[.slice (some ⟨blk,off,none⟩) (n+1) cap] w fun e w' =>e= .returned (.string ⟨s.toArray⟩)∧Go.RowKit.Below w.heap.size w w'
theorem txtL_self:∀ {cs us:List Value} {p q:IntKind×UInt8} {s:List UInt8} {M:Map},txtL cs p q=some s→Vs M cs us→us=cs
  | [],[],_,_,_,_,_,_=>rfl
  | v::cs,u::us,p,q,s,M,h,hv=>by
    rw [txtL_cons] at h
    split at h
    · rename_i a b h1 h2
      rw [txtL_self h2 hv.2]
      have:∃ k x,v= .int k x:=by
        unfold txt1 at h1
        split at h1
        · exact ⟨_,_,rfl⟩
        · cases h1
      obtain ⟨k,x,rfl⟩:=this
      rw [V_int.1 hv.1]
    · cases h
theorem txt_run {P:Program} {f:Nat} {z:TxK} {fn:Func} (hS:TxtOk P f z) (hf:P.funcs[f]? =some fn) {vs:List Value} {G G' :GS} {v:Value} (h:txt z vs G=some (v,G')) {M:Map} {w:World} {B:Nat} {args:Array Value} (hR:Rel G M w B) (hv:Vs M vs args.toList) :
    Calls P f args w fun e w' =>∃ s,v= .string s∧G' =G∧e= .returned (.string s)∧Go.RowKit.Below w.heap.size w w' :=by
  obtain ⟨_,_,hC0,hC⟩:=hS fn hf
  unfold txt at h
  split at h
  · rename_i p cap
    obtain ⟨rfl,rfl⟩:v= .string ⟨#[]⟩∧G' =G:=by cases h; exact ⟨rfl,rfl⟩
    obtain ⟨l'⟩:=args
    match l',hv with
    | [a],hv =>
      have:∃ p' cap',a= .slice p' 0 cap' :=by
        cases p with
        | none=>obtain ⟨e1,_,rfl⟩:=V_nilSlice.1 hv.1; exact ⟨_,_,rfl⟩
        | some q=>obtain ⟨q0,q1,q2⟩:=q; obtain ⟨_,_,_,_,rfl,_⟩:=V_slice.1 hv.1; exact ⟨_,_,rfl⟩
      obtain ⟨p',cap',rfl⟩:=this
      exact (hC0 w p' cap').mono fun e w' ⟨h1,h2⟩=>⟨_,rfl,rfl,h1,h2⟩
  · rename_i b o n cap
    split at h
    · rename_i hgn
      obtain ⟨hg,hn⟩:=(Bool.and_eq_true _ _).mp hgn
      have hn:=Nat.le_of_ble_eq_true hn
      split at h
      · rename_i l hl
        split at h
        · rename_i s hs
          obtain ⟨rfl,rfl⟩:v= .string ⟨s.toArray⟩∧G' =G:=by cases h; exact ⟨rfl,rfl⟩
          obtain ⟨l'⟩:=args
          match l',hv with
          | [a],hv =>
            obtain ⟨x,b',cr,hx,rfl,hlc,hcr,hb'⟩:=V_slice.1 hv.1
            have hcr0:cr≠0:=by
              rcases hcr with h | ⟨_,_,h⟩<;>omega
            obtain rfl:=hb' hcr0
            obtain ⟨us,hus,hun,hcell⟩:=rd_run hR hx hl
            have hself:=txtL_self hs hus
            subst hself
            exact (hC w x.blk (x.off+o) cr n us s (hR.tab hg) (by omega) hun hcell hs).mono fun e w' ⟨h1,h2⟩=>⟨_,rfl,rfl,h1,h2⟩
        · cases h
      · cases h
    · cases h
  · cases h
end
end Go.Proofs.YtlaojmcekeohnaaGreatDoor.Gh
